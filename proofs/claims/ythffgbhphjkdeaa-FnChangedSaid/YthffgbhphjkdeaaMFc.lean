/-
  PROVED: contracts of functions and words on memory, several texts put together: what each says stands at its theorems. Conditions: as told there.
-/
import Derived.Test.YthffgbhphjkdeaaMFb
set_option linter.unusedVariables false
set_option linter.unusedSimpArgs false
namespace Go.Proofs.Ythffgbhphjkdeaa
open Go.RowKit
set_option linter.unusedVariables false
set_option linter.unusedSimpArgs false

def styleOk (x : Style) : Bool := (inB x.dir 1 4 && inB x.wrap 1 3 && inB x.justify 1 6 && inB x.items 1 5 && inB x.self 0 5 && inB x.content 1 6) && (inB x.order (-1000) 1000 && inB x.grow 0 1000 && inB x.shrink 0 1000 && inB x.ratio 0 6400) && (sizeOk x.basis && sizeOk x.width && sizeOk x.height && sizeOk x.minWidth && sizeOk x.minHeight && sizeOk x.maxWidth && sizeOk x.maxHeight) && (sidesOk x.margin && sidesOk x.inset && edgesOk x.pad && edgesOk x.border && inB x.rowGap 0 1048576 && inB x.colGap 0 1048576)
set_option maxRecDepth 100000 in
set_option maxHeartbeats 8000000 in
theorem sstyleOk_any (x : Style) (w : World) : Calls Try.prog 84 #[.agg #[.int .i64 x.dir, .int .i64 x.wrap, .int .i64 x.justify, .int .i64 x.items, .int .i64 x.self, .int .i64 x.content, .bool x.apart, .bool x.hidden, .int .i64 x.order, .int .i64 x.grow, .int .i64 x.shrink, .int .i64 x.basis.kind, .int .i64 x.basis.n, .int .i64 x.width.kind, .int .i64 x.width.n, .int .i64 x.height.kind, .int .i64 x.height.n, .int .i64 x.minWidth.kind, .int .i64 x.minWidth.n, .int .i64 x.minHeight.kind, .int .i64 x.minHeight.n, .int .i64 x.maxWidth.kind, .int .i64 x.maxWidth.n, .int .i64 x.maxHeight.kind, .int .i64 x.maxHeight.n, .int .i64 x.ratio, .int .i64 x.margin.left.kind, .int .i64 x.margin.left.n, .int .i64 x.margin.top.kind, .int .i64 x.margin.top.n, .int .i64 x.margin.right.kind, .int .i64 x.margin.right.n, .int .i64 x.margin.bottom.kind, .int .i64 x.margin.bottom.n, .int .i64 x.margin.start.kind, .int .i64 x.margin.start.n, .int .i64 x.margin.stop.kind, .int .i64 x.margin.stop.n, .int .i64 x.inset.left.kind, .int .i64 x.inset.left.n, .int .i64 x.inset.top.kind, .int .i64 x.inset.top.n, .int .i64 x.inset.right.kind, .int .i64 x.inset.right.n, .int .i64 x.inset.bottom.kind, .int .i64 x.inset.bottom.n, .int .i64 x.inset.start.kind, .int .i64 x.inset.start.n, .int .i64 x.inset.stop.kind, .int .i64 x.inset.stop.n, .int .i64 x.pad.left, .int .i64 x.pad.top, .int .i64 x.pad.right, .int .i64 x.pad.bottom, .int .i64 x.border.left, .int .i64 x.border.top, .int .i64 x.border.right, .int .i64 x.border.bottom, .int .i64 x.rowGap, .int .i64 x.colGap]] w fun e w' => e = .returned (.bool (styleOk x)) ∧ Mod (fun _ => False) w w' := by
  refine calls_sx Try.func84 rfl rfl (fun a h1 h2 h3 => ((Fr.nil h1 h2).arg (h3 0 _ rfl))) ?_
  cases q0 : inB x.dir 1 4
  · have hv : styleOk x = false := by simp [styleOk, q0]
    repeat (first | refine qan ?_ | refine qaj ?_ | refine qaf ?_ | refine qad ?_ | refine qaq rfl ?_ | (refine qaS rfl rfl rfl ?_) | (refine qau ?_; (refine qac (qaN rfl (fun w _ => l01In_any _ _ _ _)) rfl ?_ ?_ ?_); rfl; rfl) | (refine qaw ?_; (refine qac (qav 0 rfl rfl rfl) rfl ?_ ?_ ?_); rfl; rfl) | (refine qai ?_; (refine qac (qae rfl) rfl ?_ ?_ ?_); rfl; rfl) | (refine qap ?_; (refine qac (qak rfl) rfl ?_ ?_ ?_); rfl; rfl) | (refine qam ?_; (refine qac (qah rfl) rfl ?_ ?_ ?_); rfl; rfl) | (refine l_not ?_; (refine qac (OpW.not rfl) rfl ?_ ?_ ?_); rfl; rfl) | (refine qaG ?_; (refine qac (qay rfl rfl rfl) rfl ?_ ?_ ?_); rfl; rfl) | (refine l_box ?_; refine qaM ?_ ?_ rfl rfl (fun g => ?_); rfl; rfl) | (rw [q0]) | refine qaz ?_ | refine qax ?_)
    refine qaA rfl rfl (fun w' hl => ⟨ret_bool hv.symm, hl.mod⟩)
  cases q1 : inB x.wrap 1 3
  · have hv : styleOk x = false := by simp [styleOk, q1]
    repeat (first | refine qan ?_ | refine qaj ?_ | refine qaf ?_ | refine qad ?_ | refine qaq rfl ?_ | (refine qaS rfl rfl rfl ?_) | (refine qau ?_; (refine qac (qaN rfl (fun w _ => l01In_any _ _ _ _)) rfl ?_ ?_ ?_); rfl; rfl) | (refine qaw ?_; (refine qac (qav 0 rfl rfl rfl) rfl ?_ ?_ ?_); rfl; rfl) | (refine qai ?_; (refine qac (qae rfl) rfl ?_ ?_ ?_); rfl; rfl) | (refine qap ?_; (refine qac (qak rfl) rfl ?_ ?_ ?_); rfl; rfl) | (refine qam ?_; (refine qac (qah rfl) rfl ?_ ?_ ?_); rfl; rfl) | (refine l_not ?_; (refine qac (OpW.not rfl) rfl ?_ ?_ ?_); rfl; rfl) | (refine qaG ?_; (refine qac (qay rfl rfl rfl) rfl ?_ ?_ ?_); rfl; rfl) | (refine l_box ?_; refine qaM ?_ ?_ rfl rfl (fun g => ?_); rfl; rfl) | ((first | rw [q0] | rw [q1])) | refine qaz ?_ | refine qax ?_)
    refine qaA rfl rfl (fun w' hl => ⟨ret_bool hv.symm, hl.mod⟩)
  cases q2 : inB x.justify 1 6
  · have hv : styleOk x = false := by simp [styleOk, q2]
    repeat (first | refine qan ?_ | refine qaj ?_ | refine qaf ?_ | refine qad ?_ | refine qaq rfl ?_ | (refine qaS rfl rfl rfl ?_) | (refine qau ?_; (refine qac (qaN rfl (fun w _ => l01In_any _ _ _ _)) rfl ?_ ?_ ?_); rfl; rfl) | (refine qaw ?_; (refine qac (qav 0 rfl rfl rfl) rfl ?_ ?_ ?_); rfl; rfl) | (refine qai ?_; (refine qac (qae rfl) rfl ?_ ?_ ?_); rfl; rfl) | (refine qap ?_; (refine qac (qak rfl) rfl ?_ ?_ ?_); rfl; rfl) | (refine qam ?_; (refine qac (qah rfl) rfl ?_ ?_ ?_); rfl; rfl) | (refine l_not ?_; (refine qac (OpW.not rfl) rfl ?_ ?_ ?_); rfl; rfl) | (refine qaG ?_; (refine qac (qay rfl rfl rfl) rfl ?_ ?_ ?_); rfl; rfl) | (refine l_box ?_; refine qaM ?_ ?_ rfl rfl (fun g => ?_); rfl; rfl) | ((first | rw [q0] | rw [q1] | rw [q2])) | refine qaz ?_ | refine qax ?_)
    refine qaA rfl rfl (fun w' hl => ⟨ret_bool hv.symm, hl.mod⟩)
  cases q3 : inB x.items 1 5
  · have hv : styleOk x = false := by simp [styleOk, q3]
    repeat (first | refine qan ?_ | refine qaj ?_ | refine qaf ?_ | refine qad ?_ | refine qaq rfl ?_ | (refine qaS rfl rfl rfl ?_) | (refine qau ?_; (refine qac (qaN rfl (fun w _ => l01In_any _ _ _ _)) rfl ?_ ?_ ?_); rfl; rfl) | (refine qaw ?_; (refine qac (qav 0 rfl rfl rfl) rfl ?_ ?_ ?_); rfl; rfl) | (refine qai ?_; (refine qac (qae rfl) rfl ?_ ?_ ?_); rfl; rfl) | (refine qap ?_; (refine qac (qak rfl) rfl ?_ ?_ ?_); rfl; rfl) | (refine qam ?_; (refine qac (qah rfl) rfl ?_ ?_ ?_); rfl; rfl) | (refine l_not ?_; (refine qac (OpW.not rfl) rfl ?_ ?_ ?_); rfl; rfl) | (refine qaG ?_; (refine qac (qay rfl rfl rfl) rfl ?_ ?_ ?_); rfl; rfl) | (refine l_box ?_; refine qaM ?_ ?_ rfl rfl (fun g => ?_); rfl; rfl) | ((first | rw [q0] | rw [q1] | rw [q2] | rw [q3])) | refine qaz ?_ | refine qax ?_)
    refine qaA rfl rfl (fun w' hl => ⟨ret_bool hv.symm, hl.mod⟩)
  cases q4 : inB x.self 0 5
  · have hv : styleOk x = false := by simp [styleOk, q4]
    repeat (first | refine qan ?_ | refine qaj ?_ | refine qaf ?_ | refine qad ?_ | refine qaq rfl ?_ | (refine qaS rfl rfl rfl ?_) | (refine qau ?_; (refine qac (qaN rfl (fun w _ => l01In_any _ _ _ _)) rfl ?_ ?_ ?_); rfl; rfl) | (refine qaw ?_; (refine qac (qav 0 rfl rfl rfl) rfl ?_ ?_ ?_); rfl; rfl) | (refine qai ?_; (refine qac (qae rfl) rfl ?_ ?_ ?_); rfl; rfl) | (refine qap ?_; (refine qac (qak rfl) rfl ?_ ?_ ?_); rfl; rfl) | (refine qam ?_; (refine qac (qah rfl) rfl ?_ ?_ ?_); rfl; rfl) | (refine l_not ?_; (refine qac (OpW.not rfl) rfl ?_ ?_ ?_); rfl; rfl) | (refine qaG ?_; (refine qac (qay rfl rfl rfl) rfl ?_ ?_ ?_); rfl; rfl) | (refine l_box ?_; refine qaM ?_ ?_ rfl rfl (fun g => ?_); rfl; rfl) | ((first | rw [q0] | rw [q1] | rw [q2] | rw [q3] | rw [q4])) | refine qaz ?_ | refine qax ?_)
    refine qaA rfl rfl (fun w' hl => ⟨ret_bool hv.symm, hl.mod⟩)
  cases q5 : inB x.content 1 6
  · have hv : styleOk x = false := by simp [styleOk, q5]
    repeat (first | refine qan ?_ | refine qaj ?_ | refine qaf ?_ | refine qad ?_ | refine qaq rfl ?_ | (refine qau ?_; (refine qac (qaN rfl (fun w _ => l01In_any _ _ _ _)) rfl ?_ ?_ ?_); rfl; rfl) | (refine qaw ?_; (refine qac (qav 0 rfl rfl rfl) rfl ?_ ?_ ?_); rfl; rfl) | (refine qai ?_; (refine qac (qae rfl) rfl ?_ ?_ ?_); rfl; rfl) | (refine qap ?_; (refine qac (qak rfl) rfl ?_ ?_ ?_); rfl; rfl) | (refine qam ?_; (refine qac (qah rfl) rfl ?_ ?_ ?_); rfl; rfl) | (refine l_not ?_; (refine qac (OpW.not rfl) rfl ?_ ?_ ?_); rfl; rfl) | (refine qaG ?_; (refine qac (qay rfl rfl rfl) rfl ?_ ?_ ?_); rfl; rfl) | (refine l_box ?_; refine qaM ?_ ?_ rfl rfl (fun g => ?_); rfl; rfl) | ((first | rw [q0] | rw [q1] | rw [q2] | rw [q3] | rw [q4] | rw [q5])) | refine qaz ?_ | refine qax ?_)
    refine qaA rfl rfl (fun w' hl => ⟨ret_bool hv.symm, hl.mod⟩)
  cases q6 : inB x.order (-1000) 1000
  · have hv : styleOk x = false := by simp [styleOk, q6]
    repeat (first | refine qan ?_ | refine qaj ?_ | refine qaf ?_ | refine qad ?_ | refine qaC ?_ | refine qaq rfl ?_ | refine qat rfl ?_ | (refine qaS rfl rfl rfl ?_) | (refine qau ?_; (refine qac (qaN rfl (fun w _ => l01In_any _ _ _ _)) rfl ?_ ?_ ?_); rfl; rfl) | (refine qaw ?_; (refine qac (qav 0 rfl rfl rfl) rfl ?_ ?_ ?_); rfl; rfl) | (refine qai ?_; (refine qac (qae rfl) rfl ?_ ?_ ?_); rfl; rfl) | (refine qap ?_; (refine qac (qak rfl) rfl ?_ ?_ ?_); rfl; rfl) | (refine qam ?_; (refine qac (qah rfl) rfl ?_ ?_ ?_); rfl; rfl) | (refine l_not ?_; (refine qac (OpW.not rfl) rfl ?_ ?_ ?_); rfl; rfl) | (refine qaG ?_; (refine qac (qay rfl rfl rfl) rfl ?_ ?_ ?_); rfl; rfl) | (refine l_box ?_; refine qaM ?_ ?_ rfl rfl (fun g => ?_); rfl; rfl) | ((first | rw [q0] | rw [q1] | rw [q2] | rw [q3] | rw [q4] | rw [q5] | rw [q6])) | refine qaz ?_ | refine qax ?_)
    refine qaA rfl rfl (fun w' hl => ⟨ret_bool hv.symm, hl.mod⟩)
  cases q7 : inB x.grow 0 1000
  · have hv : styleOk x = false := by simp [styleOk, q7]
    repeat (first | refine qan ?_ | refine qaj ?_ | refine qaf ?_ | refine qad ?_ | refine qaC ?_ | refine qaq rfl ?_ | refine qat rfl ?_ | (refine qaS rfl rfl rfl ?_) | (refine qau ?_; (refine qac (qaN rfl (fun w _ => l01In_any _ _ _ _)) rfl ?_ ?_ ?_); rfl; rfl) | (refine qaw ?_; (refine qac (qav 0 rfl rfl rfl) rfl ?_ ?_ ?_); rfl; rfl) | (refine qai ?_; (refine qac (qae rfl) rfl ?_ ?_ ?_); rfl; rfl) | (refine qap ?_; (refine qac (qak rfl) rfl ?_ ?_ ?_); rfl; rfl) | (refine qam ?_; (refine qac (qah rfl) rfl ?_ ?_ ?_); rfl; rfl) | (refine l_not ?_; (refine qac (OpW.not rfl) rfl ?_ ?_ ?_); rfl; rfl) | (refine qaG ?_; (refine qac (qay rfl rfl rfl) rfl ?_ ?_ ?_); rfl; rfl) | (refine l_box ?_; refine qaM ?_ ?_ rfl rfl (fun g => ?_); rfl; rfl) | ((first | rw [q0] | rw [q1] | rw [q2] | rw [q3] | rw [q4] | rw [q5] | rw [q6] | rw [q7])) | refine qaz ?_ | refine qax ?_)
    refine qaA rfl rfl (fun w' hl => ⟨ret_bool hv.symm, hl.mod⟩)
  cases q8 : inB x.shrink 0 1000
  · have hv : styleOk x = false := by simp [styleOk, q8]
    repeat (first | refine qan ?_ | refine qaj ?_ | refine qaf ?_ | refine qad ?_ | refine qaC ?_ | refine qaq rfl ?_ | refine qat rfl ?_ | (refine qaS rfl rfl rfl ?_) | (refine qau ?_; (refine qac (qaN rfl (fun w _ => l01In_any _ _ _ _)) rfl ?_ ?_ ?_); rfl; rfl) | (refine qaw ?_; (refine qac (qav 0 rfl rfl rfl) rfl ?_ ?_ ?_); rfl; rfl) | (refine qai ?_; (refine qac (qae rfl) rfl ?_ ?_ ?_); rfl; rfl) | (refine qap ?_; (refine qac (qak rfl) rfl ?_ ?_ ?_); rfl; rfl) | (refine qam ?_; (refine qac (qah rfl) rfl ?_ ?_ ?_); rfl; rfl) | (refine l_not ?_; (refine qac (OpW.not rfl) rfl ?_ ?_ ?_); rfl; rfl) | (refine qaG ?_; (refine qac (qay rfl rfl rfl) rfl ?_ ?_ ?_); rfl; rfl) | (refine l_box ?_; refine qaM ?_ ?_ rfl rfl (fun g => ?_); rfl; rfl) | ((first | rw [q0] | rw [q1] | rw [q2] | rw [q3] | rw [q4] | rw [q5] | rw [q6] | rw [q7] | rw [q8])) | refine qaz ?_ | refine qax ?_)
    refine qaA rfl rfl (fun w' hl => ⟨ret_bool hv.symm, hl.mod⟩)
  cases q9 : inB x.ratio 0 6400
  · have hv : styleOk x = false := by simp [styleOk, q9]
    repeat (first | refine qan ?_ | refine qaj ?_ | refine qaf ?_ | refine qad ?_ | refine qaC ?_ | refine qaq rfl ?_ | refine qat rfl ?_ | (refine qau ?_; (refine qac (qaN rfl (fun w _ => l01In_any _ _ _ _)) rfl ?_ ?_ ?_); rfl; rfl) | (refine qaw ?_; (refine qac (qav 0 rfl rfl rfl) rfl ?_ ?_ ?_); rfl; rfl) | (refine qai ?_; (refine qac (qae rfl) rfl ?_ ?_ ?_); rfl; rfl) | (refine qap ?_; (refine qac (qak rfl) rfl ?_ ?_ ?_); rfl; rfl) | (refine qam ?_; (refine qac (qah rfl) rfl ?_ ?_ ?_); rfl; rfl) | (refine l_not ?_; (refine qac (OpW.not rfl) rfl ?_ ?_ ?_); rfl; rfl) | (refine qaG ?_; (refine qac (qay rfl rfl rfl) rfl ?_ ?_ ?_); rfl; rfl) | (refine l_box ?_; refine qaM ?_ ?_ rfl rfl (fun g => ?_); rfl; rfl) | ((first | rw [q0] | rw [q1] | rw [q2] | rw [q3] | rw [q4] | rw [q5] | rw [q6] | rw [q7] | rw [q8] | rw [q9])) | refine qaz ?_ | refine qax ?_)
    refine qaA rfl rfl (fun w' hl => ⟨ret_bool hv.symm, hl.mod⟩)
  cases q10 : sizeOk x.basis
  · have hv : styleOk x = false := by simp [styleOk, q10]
    repeat (first | refine qan ?_ | refine qaj ?_ | refine qaf ?_ | refine qad ?_ | refine qaC ?_ | refine qaq rfl ?_ | refine qat rfl ?_ | (refine qaS rfl rfl rfl ?_) | (refine qau ?_; (first | refine qac (qao rfl (fun w hl => ssizeOk_any _ _)) rfl ?_ ?_ ?_ | refine qac (qaN rfl (fun w _ => l01In_any _ _ _ _)) rfl ?_ ?_ ?_); rfl; rfl) | (refine qaw ?_; (first | refine qac (qav 0 rfl rfl rfl) rfl ?_ ?_ ?_ | refine qac (qaE 0 rfl rfl rfl rfl) rfl ?_ ?_ ?_); rfl; rfl) | (refine qai ?_; (refine qac (qae rfl) rfl ?_ ?_ ?_); rfl; rfl) | (refine qap ?_; (refine qac (qak rfl) rfl ?_ ?_ ?_); rfl; rfl) | (refine qam ?_; (refine qac (qah rfl) rfl ?_ ?_ ?_); rfl; rfl) | (refine l_not ?_; (refine qac (OpW.not rfl) rfl ?_ ?_ ?_); rfl; rfl) | (refine qaG ?_; (refine qac (qay rfl rfl rfl) rfl ?_ ?_ ?_); rfl; rfl) | (refine l_box ?_; refine qaM ?_ ?_ rfl rfl (fun g => ?_); rfl; rfl) | ((first | rw [q0] | rw [q1] | rw [q2] | rw [q3] | rw [q4] | rw [q5] | rw [q6] | rw [q7] | rw [q8] | rw [q9] | rw [q10])) | refine qaz ?_ | refine qax ?_)
    refine qaA rfl rfl (fun w' hl => ⟨ret_bool hv.symm, hl.mod⟩)
  cases q11 : sizeOk x.width
  · have hv : styleOk x = false := by simp [styleOk, q11]
    repeat (first | refine qan ?_ | refine qaj ?_ | refine qaf ?_ | refine qad ?_ | refine qaC ?_ | refine qaq rfl ?_ | refine qat rfl ?_ | (refine qaS rfl rfl rfl ?_) | (refine qau ?_; (first | refine qac (qao rfl (fun w hl => ssizeOk_any _ _)) rfl ?_ ?_ ?_ | refine qac (qaN rfl (fun w _ => l01In_any _ _ _ _)) rfl ?_ ?_ ?_); rfl; rfl) | (refine qaw ?_; (first | refine qac (qav 0 rfl rfl rfl) rfl ?_ ?_ ?_ | refine qac (qaE 0 rfl rfl rfl rfl) rfl ?_ ?_ ?_); rfl; rfl) | (refine qai ?_; (refine qac (qae rfl) rfl ?_ ?_ ?_); rfl; rfl) | (refine qap ?_; (refine qac (qak rfl) rfl ?_ ?_ ?_); rfl; rfl) | (refine qam ?_; (refine qac (qah rfl) rfl ?_ ?_ ?_); rfl; rfl) | (refine l_not ?_; (refine qac (OpW.not rfl) rfl ?_ ?_ ?_); rfl; rfl) | (refine qaG ?_; (refine qac (qay rfl rfl rfl) rfl ?_ ?_ ?_); rfl; rfl) | (refine l_box ?_; refine qaM ?_ ?_ rfl rfl (fun g => ?_); rfl; rfl) | ((first | rw [q0] | rw [q1] | rw [q2] | rw [q3] | rw [q4] | rw [q5] | rw [q6] | rw [q7] | rw [q8] | rw [q9] | rw [q10] | rw [q11])) | refine qaz ?_ | refine qax ?_)
    refine qaA rfl rfl (fun w' hl => ⟨ret_bool hv.symm, hl.mod⟩)
  cases q12 : sizeOk x.height
  · have hv : styleOk x = false := by simp [styleOk, q12]
    repeat (first | refine qan ?_ | refine qaj ?_ | refine qaf ?_ | refine qad ?_ | refine qaC ?_ | refine qaq rfl ?_ | refine qat rfl ?_ | (refine qaS rfl rfl rfl ?_) | (refine qau ?_; (first | refine qac (qao rfl (fun w hl => ssizeOk_any _ _)) rfl ?_ ?_ ?_ | refine qac (qaN rfl (fun w _ => l01In_any _ _ _ _)) rfl ?_ ?_ ?_); rfl; rfl) | (refine qaw ?_; (first | refine qac (qav 0 rfl rfl rfl) rfl ?_ ?_ ?_ | refine qac (qaE 0 rfl rfl rfl rfl) rfl ?_ ?_ ?_); rfl; rfl) | (refine qai ?_; (refine qac (qae rfl) rfl ?_ ?_ ?_); rfl; rfl) | (refine qap ?_; (refine qac (qak rfl) rfl ?_ ?_ ?_); rfl; rfl) | (refine qam ?_; (refine qac (qah rfl) rfl ?_ ?_ ?_); rfl; rfl) | (refine l_not ?_; (refine qac (OpW.not rfl) rfl ?_ ?_ ?_); rfl; rfl) | (refine qaG ?_; (refine qac (qay rfl rfl rfl) rfl ?_ ?_ ?_); rfl; rfl) | (refine l_box ?_; refine qaM ?_ ?_ rfl rfl (fun g => ?_); rfl; rfl) | ((first | rw [q0] | rw [q1] | rw [q2] | rw [q3] | rw [q4] | rw [q5] | rw [q6] | rw [q7] | rw [q8] | rw [q9] | rw [q10] | rw [q11] | rw [q12])) | refine qaz ?_ | refine qax ?_)
    refine qaA rfl rfl (fun w' hl => ⟨ret_bool hv.symm, hl.mod⟩)
  cases q13 : sizeOk x.minWidth
  · have hv : styleOk x = false := by simp [styleOk, q13]
    repeat (first | refine qan ?_ | refine qaj ?_ | refine qaf ?_ | refine qad ?_ | refine qaC ?_ | refine qaq rfl ?_ | refine qat rfl ?_ | (refine qaS rfl rfl rfl ?_) | (refine qau ?_; (first | refine qac (qao rfl (fun w hl => ssizeOk_any _ _)) rfl ?_ ?_ ?_ | refine qac (qaN rfl (fun w _ => l01In_any _ _ _ _)) rfl ?_ ?_ ?_); rfl; rfl) | (refine qaw ?_; (first | refine qac (qav 0 rfl rfl rfl) rfl ?_ ?_ ?_ | refine qac (qaE 0 rfl rfl rfl rfl) rfl ?_ ?_ ?_); rfl; rfl) | (refine qai ?_; (refine qac (qae rfl) rfl ?_ ?_ ?_); rfl; rfl) | (refine qap ?_; (refine qac (qak rfl) rfl ?_ ?_ ?_); rfl; rfl) | (refine qam ?_; (refine qac (qah rfl) rfl ?_ ?_ ?_); rfl; rfl) | (refine l_not ?_; (refine qac (OpW.not rfl) rfl ?_ ?_ ?_); rfl; rfl) | (refine qaG ?_; (refine qac (qay rfl rfl rfl) rfl ?_ ?_ ?_); rfl; rfl) | (refine l_box ?_; refine qaM ?_ ?_ rfl rfl (fun g => ?_); rfl; rfl) | ((first | rw [q0] | rw [q1] | rw [q2] | rw [q3] | rw [q4] | rw [q5] | rw [q6] | rw [q7] | rw [q8] | rw [q9] | rw [q10] | rw [q11] | rw [q12] | rw [q13])) | refine qaz ?_ | refine qax ?_)
    refine qaA rfl rfl (fun w' hl => ⟨ret_bool hv.symm, hl.mod⟩)
  cases q14 : sizeOk x.minHeight
  · have hv : styleOk x = false := by simp [styleOk, q14]
    repeat (first | refine qan ?_ | refine qaj ?_ | refine qaf ?_ | refine qad ?_ | refine qaC ?_ | refine qaq rfl ?_ | refine qat rfl ?_ | (refine qaS rfl rfl rfl ?_) | (refine qau ?_; (first | refine qac (qao rfl (fun w hl => ssizeOk_any _ _)) rfl ?_ ?_ ?_ | refine qac (qaN rfl (fun w _ => l01In_any _ _ _ _)) rfl ?_ ?_ ?_); rfl; rfl) | (refine qaw ?_; (first | refine qac (qav 0 rfl rfl rfl) rfl ?_ ?_ ?_ | refine qac (qaE 0 rfl rfl rfl rfl) rfl ?_ ?_ ?_); rfl; rfl) | (refine qai ?_; (refine qac (qae rfl) rfl ?_ ?_ ?_); rfl; rfl) | (refine qap ?_; (refine qac (qak rfl) rfl ?_ ?_ ?_); rfl; rfl) | (refine qam ?_; (refine qac (qah rfl) rfl ?_ ?_ ?_); rfl; rfl) | (refine l_not ?_; (refine qac (OpW.not rfl) rfl ?_ ?_ ?_); rfl; rfl) | (refine qaG ?_; (refine qac (qay rfl rfl rfl) rfl ?_ ?_ ?_); rfl; rfl) | (refine l_box ?_; refine qaM ?_ ?_ rfl rfl (fun g => ?_); rfl; rfl) | ((first | rw [q0] | rw [q1] | rw [q2] | rw [q3] | rw [q4] | rw [q5] | rw [q6] | rw [q7] | rw [q8] | rw [q9] | rw [q10] | rw [q11] | rw [q12] | rw [q13] | rw [q14])) | refine qaz ?_ | refine qax ?_)
    refine qaA rfl rfl (fun w' hl => ⟨ret_bool hv.symm, hl.mod⟩)
  cases q15 : sizeOk x.maxWidth
  · have hv : styleOk x = false := by simp [styleOk, q15]
    repeat (first | refine qan ?_ | refine qaj ?_ | refine qaf ?_ | refine qad ?_ | refine qaC ?_ | refine qaq rfl ?_ | refine qat rfl ?_ | (refine qaS rfl rfl rfl ?_) | (refine qau ?_; (first | refine qac (qao rfl (fun w hl => ssizeOk_any _ _)) rfl ?_ ?_ ?_ | refine qac (qaN rfl (fun w _ => l01In_any _ _ _ _)) rfl ?_ ?_ ?_); rfl; rfl) | (refine qaw ?_; (first | refine qac (qav 0 rfl rfl rfl) rfl ?_ ?_ ?_ | refine qac (qaE 0 rfl rfl rfl rfl) rfl ?_ ?_ ?_); rfl; rfl) | (refine qai ?_; (refine qac (qae rfl) rfl ?_ ?_ ?_); rfl; rfl) | (refine qap ?_; (refine qac (qak rfl) rfl ?_ ?_ ?_); rfl; rfl) | (refine qam ?_; (refine qac (qah rfl) rfl ?_ ?_ ?_); rfl; rfl) | (refine l_not ?_; (refine qac (OpW.not rfl) rfl ?_ ?_ ?_); rfl; rfl) | (refine qaG ?_; (refine qac (qay rfl rfl rfl) rfl ?_ ?_ ?_); rfl; rfl) | (refine l_box ?_; refine qaM ?_ ?_ rfl rfl (fun g => ?_); rfl; rfl) | ((first | rw [q0] | rw [q1] | rw [q2] | rw [q3] | rw [q4] | rw [q5] | rw [q6] | rw [q7] | rw [q8] | rw [q9] | rw [q10] | rw [q11] | rw [q12] | rw [q13] | rw [q14] | rw [q15])) | refine qaz ?_ | refine qax ?_)
    refine qaA rfl rfl (fun w' hl => ⟨ret_bool hv.symm, hl.mod⟩)
  cases q16 : sizeOk x.maxHeight
  · have hv : styleOk x = false := by simp [styleOk, q16]
    repeat (first | refine qan ?_ | refine qaj ?_ | refine qaf ?_ | refine qad ?_ | refine qaC ?_ | refine qaq rfl ?_ | refine qat rfl ?_ | (refine qau ?_; (first | refine qac (qao rfl (fun w hl => ssizeOk_any _ _)) rfl ?_ ?_ ?_ | refine qac (qaN rfl (fun w _ => l01In_any _ _ _ _)) rfl ?_ ?_ ?_); rfl; rfl) | (refine qaw ?_; (first | refine qac (qav 0 rfl rfl rfl) rfl ?_ ?_ ?_ | refine qac (qaE 0 rfl rfl rfl rfl) rfl ?_ ?_ ?_); rfl; rfl) | (refine qai ?_; (refine qac (qae rfl) rfl ?_ ?_ ?_); rfl; rfl) | (refine qap ?_; (refine qac (qak rfl) rfl ?_ ?_ ?_); rfl; rfl) | (refine qam ?_; (refine qac (qah rfl) rfl ?_ ?_ ?_); rfl; rfl) | (refine l_not ?_; (refine qac (OpW.not rfl) rfl ?_ ?_ ?_); rfl; rfl) | (refine qaG ?_; (refine qac (qay rfl rfl rfl) rfl ?_ ?_ ?_); rfl; rfl) | (refine l_box ?_; refine qaM ?_ ?_ rfl rfl (fun g => ?_); rfl; rfl) | ((first | rw [q0] | rw [q1] | rw [q2] | rw [q3] | rw [q4] | rw [q5] | rw [q6] | rw [q7] | rw [q8] | rw [q9] | rw [q10] | rw [q11] | rw [q12] | rw [q13] | rw [q14] | rw [q15] | rw [q16])) | refine qaz ?_ | refine qax ?_)
    refine qaA rfl rfl (fun w' hl => ⟨ret_bool hv.symm, hl.mod⟩)
  cases q17 : sidesOk x.margin
  · have hv : styleOk x = false := by simp [styleOk, q17]
    repeat (first | refine qan ?_ | refine qaj ?_ | refine qaf ?_ | refine qad ?_ | refine qaC ?_ | refine qat rfl ?_ | (refine qaS rfl rfl rfl ?_) | (refine qau ?_; (first | refine qac (qao rfl (fun w hl => ssizeOk_any _ _)) rfl ?_ ?_ ?_ | refine qac (qao rfl (fun w hl => ssidesOk_any _ _)) rfl ?_ ?_ ?_ | refine qac (qaN rfl (fun w _ => l01In_any _ _ _ _)) rfl ?_ ?_ ?_); rfl; rfl) | (refine qaw ?_; (first | refine qac (qav 0 rfl rfl rfl) rfl ?_ ?_ ?_ | refine qac (qaE 0 rfl rfl rfl rfl) rfl ?_ ?_ ?_); rfl; rfl) | (refine qai ?_; (refine qac (qae rfl) rfl ?_ ?_ ?_); rfl; rfl) | (refine qap ?_; (refine qac (qak rfl) rfl ?_ ?_ ?_); rfl; rfl) | (refine qam ?_; (refine qac (qah rfl) rfl ?_ ?_ ?_); rfl; rfl) | (refine l_not ?_; (refine qac (OpW.not rfl) rfl ?_ ?_ ?_); rfl; rfl) | (refine qaG ?_; (refine qac (qay rfl rfl rfl) rfl ?_ ?_ ?_); rfl; rfl) | (refine l_box ?_; refine qaM ?_ ?_ rfl rfl (fun g => ?_); rfl; rfl) | ((first | rw [q0] | rw [q1] | rw [q2] | rw [q3] | rw [q4] | rw [q5] | rw [q6] | rw [q7] | rw [q8] | rw [q9] | rw [q10] | rw [q11] | rw [q12] | rw [q13] | rw [q14] | rw [q15] | rw [q16] | rw [q17])) | refine qaz ?_)
    refine qaA rfl rfl (fun w' hl => ⟨ret_bool hv.symm, hl.mod⟩)
  cases q18 : sidesOk x.inset
  · have hv : styleOk x = false := by simp [styleOk, q18]
    repeat (first | refine qan ?_ | refine qaj ?_ | refine qaf ?_ | refine qad ?_ | refine qaC ?_ | refine qat rfl ?_ | (refine qaS rfl rfl rfl ?_) | (refine qau ?_; (first | refine qac (qao rfl (fun w hl => ssizeOk_any _ _)) rfl ?_ ?_ ?_ | refine qac (qao rfl (fun w hl => ssidesOk_any _ _)) rfl ?_ ?_ ?_ | refine qac (qaN rfl (fun w _ => l01In_any _ _ _ _)) rfl ?_ ?_ ?_); rfl; rfl) | (refine qaw ?_; (first | refine qac (qav 0 rfl rfl rfl) rfl ?_ ?_ ?_ | refine qac (qaE 0 rfl rfl rfl rfl) rfl ?_ ?_ ?_); rfl; rfl) | (refine qai ?_; (refine qac (qae rfl) rfl ?_ ?_ ?_); rfl; rfl) | (refine qap ?_; (refine qac (qak rfl) rfl ?_ ?_ ?_); rfl; rfl) | (refine qam ?_; (refine qac (qah rfl) rfl ?_ ?_ ?_); rfl; rfl) | (refine l_not ?_; (refine qac (OpW.not rfl) rfl ?_ ?_ ?_); rfl; rfl) | (refine qaG ?_; (refine qac (qay rfl rfl rfl) rfl ?_ ?_ ?_); rfl; rfl) | (refine l_box ?_; refine qaM ?_ ?_ rfl rfl (fun g => ?_); rfl; rfl) | ((first | rw [q0] | rw [q1] | rw [q2] | rw [q3] | rw [q4] | rw [q5] | rw [q6] | rw [q7] | rw [q8] | rw [q9] | rw [q10] | rw [q11] | rw [q12] | rw [q13] | rw [q14] | rw [q15] | rw [q16] | rw [q17] | rw [q18])) | refine qaz ?_)
    refine qaA rfl rfl (fun w' hl => ⟨ret_bool hv.symm, hl.mod⟩)
  cases q19 : edgesOk x.pad
  · have hv : styleOk x = false := by simp [styleOk, q19]
    repeat (first | refine qan ?_ | refine qaj ?_ | refine qaf ?_ | refine qad ?_ | refine qaC ?_ | refine qat rfl ?_ | (refine qaS rfl rfl rfl ?_) | (refine qau ?_; (first | refine qac (qao rfl (fun w hl => ssizeOk_any _ _)) rfl ?_ ?_ ?_ | refine qac (qao rfl (fun w hl => ssidesOk_any _ _)) rfl ?_ ?_ ?_ | refine qac (qao rfl (fun w hl => sedgesOk_any _ _)) rfl ?_ ?_ ?_ | refine qac (qaN rfl (fun w _ => l01In_any _ _ _ _)) rfl ?_ ?_ ?_); rfl; rfl) | (refine qaw ?_; (first | refine qac (qav 0 rfl rfl rfl) rfl ?_ ?_ ?_ | refine qac (qaE 0 rfl rfl rfl rfl) rfl ?_ ?_ ?_); rfl; rfl) | (refine qai ?_; (refine qac (qae rfl) rfl ?_ ?_ ?_); rfl; rfl) | (refine qap ?_; (refine qac (qak rfl) rfl ?_ ?_ ?_); rfl; rfl) | (refine qam ?_; (refine qac (qah rfl) rfl ?_ ?_ ?_); rfl; rfl) | (refine l_not ?_; (refine qac (OpW.not rfl) rfl ?_ ?_ ?_); rfl; rfl) | (refine qaG ?_; (refine qac (qay rfl rfl rfl) rfl ?_ ?_ ?_); rfl; rfl) | (refine l_box ?_; refine qaM ?_ ?_ rfl rfl (fun g => ?_); rfl; rfl) | ((first | rw [q0] | rw [q1] | rw [q2] | rw [q3] | rw [q4] | rw [q5] | rw [q6] | rw [q7] | rw [q8] | rw [q9] | rw [q10] | rw [q11] | rw [q12] | rw [q13] | rw [q14] | rw [q15] | rw [q16] | rw [q17] | rw [q18] | rw [q19])) | refine qaz ?_)
    refine qaA rfl rfl (fun w' hl => ⟨ret_bool hv.symm, hl.mod⟩)
  cases q20 : edgesOk x.border
  · have hv : styleOk x = false := by simp [styleOk, q20]
    repeat (first | refine qan ?_ | refine qaj ?_ | refine qaf ?_ | refine qad ?_ | refine qaC ?_ | refine qat rfl ?_ | (refine qaS rfl rfl rfl ?_) | (refine qau ?_; (first | refine qac (qao rfl (fun w hl => ssizeOk_any _ _)) rfl ?_ ?_ ?_ | refine qac (qao rfl (fun w hl => ssidesOk_any _ _)) rfl ?_ ?_ ?_ | refine qac (qao rfl (fun w hl => sedgesOk_any _ _)) rfl ?_ ?_ ?_ | refine qac (qaN rfl (fun w _ => l01In_any _ _ _ _)) rfl ?_ ?_ ?_); rfl; rfl) | (refine qaw ?_; (first | refine qac (qav 0 rfl rfl rfl) rfl ?_ ?_ ?_ | refine qac (qaE 0 rfl rfl rfl rfl) rfl ?_ ?_ ?_); rfl; rfl) | (refine qai ?_; (refine qac (qae rfl) rfl ?_ ?_ ?_); rfl; rfl) | (refine qap ?_; (refine qac (qak rfl) rfl ?_ ?_ ?_); rfl; rfl) | (refine qam ?_; (refine qac (qah rfl) rfl ?_ ?_ ?_); rfl; rfl) | (refine l_not ?_; (refine qac (OpW.not rfl) rfl ?_ ?_ ?_); rfl; rfl) | (refine qaG ?_; (refine qac (qay rfl rfl rfl) rfl ?_ ?_ ?_); rfl; rfl) | (refine l_box ?_; refine qaM ?_ ?_ rfl rfl (fun g => ?_); rfl; rfl) | ((first | rw [q0] | rw [q1] | rw [q2] | rw [q3] | rw [q4] | rw [q5] | rw [q6] | rw [q7] | rw [q8] | rw [q9] | rw [q10] | rw [q11] | rw [q12] | rw [q13] | rw [q14] | rw [q15] | rw [q16] | rw [q17] | rw [q18] | rw [q19] | rw [q20])) | refine qaz ?_)
    refine qaA rfl rfl (fun w' hl => ⟨ret_bool hv.symm, hl.mod⟩)
  cases q21 : inB x.rowGap 0 1048576
  · have hv : styleOk x = false := by simp [styleOk, q21]
    repeat (first | refine qan ?_ | refine qaj ?_ | refine qaf ?_ | refine qad ?_ | refine qaC ?_ | refine qat rfl ?_ | (refine qaS rfl rfl rfl ?_) | (refine qau ?_; (first | refine qac (qao rfl (fun w hl => ssizeOk_any _ _)) rfl ?_ ?_ ?_ | refine qac (qao rfl (fun w hl => ssidesOk_any _ _)) rfl ?_ ?_ ?_ | refine qac (qao rfl (fun w hl => sedgesOk_any _ _)) rfl ?_ ?_ ?_ | refine qac (qaN rfl (fun w _ => l01In_any _ _ _ _)) rfl ?_ ?_ ?_); rfl; rfl) | (refine qaw ?_; (first | refine qac (qav 0 rfl rfl rfl) rfl ?_ ?_ ?_ | refine qac (qaE 0 rfl rfl rfl rfl) rfl ?_ ?_ ?_); rfl; rfl) | (refine qai ?_; (refine qac (qae rfl) rfl ?_ ?_ ?_); rfl; rfl) | (refine qap ?_; (refine qac (qak rfl) rfl ?_ ?_ ?_); rfl; rfl) | (refine qam ?_; (refine qac (qah rfl) rfl ?_ ?_ ?_); rfl; rfl) | (refine l_not ?_; (refine qac (OpW.not rfl) rfl ?_ ?_ ?_); rfl; rfl) | (refine qaG ?_; (refine qac (qay rfl rfl rfl) rfl ?_ ?_ ?_); rfl; rfl) | (refine l_box ?_; refine qaM ?_ ?_ rfl rfl (fun g => ?_); rfl; rfl) | ((first | rw [q0] | rw [q1] | rw [q2] | rw [q3] | rw [q4] | rw [q5] | rw [q6] | rw [q7] | rw [q8] | rw [q9] | rw [q10] | rw [q11] | rw [q12] | rw [q13] | rw [q14] | rw [q15] | rw [q16] | rw [q17] | rw [q18] | rw [q19] | rw [q20] | rw [q21])) | refine qaz ?_)
    refine qaA rfl rfl (fun w' hl => ⟨ret_bool hv.symm, hl.mod⟩)
  cases q22 : inB x.colGap 0 1048576
  · have hv : styleOk x = false := by simp [styleOk, q22]
    repeat (first | refine qan ?_ | refine qaj ?_ | refine qaf ?_ | refine qad ?_ | refine qaC ?_ | refine qat rfl ?_ | (refine qau ?_; (first | refine qac (qao rfl (fun w hl => ssizeOk_any _ _)) rfl ?_ ?_ ?_ | refine qac (qao rfl (fun w hl => ssidesOk_any _ _)) rfl ?_ ?_ ?_ | refine qac (qao rfl (fun w hl => sedgesOk_any _ _)) rfl ?_ ?_ ?_ | refine qac (qaN rfl (fun w _ => l01In_any _ _ _ _)) rfl ?_ ?_ ?_); rfl; rfl) | (refine qaw ?_; (first | refine qac (qav 0 rfl rfl rfl) rfl ?_ ?_ ?_ | refine qac (qaE 0 rfl rfl rfl rfl) rfl ?_ ?_ ?_); rfl; rfl) | (refine qai ?_; (refine qac (qae rfl) rfl ?_ ?_ ?_); rfl; rfl) | (refine qap ?_; (refine qac (qak rfl) rfl ?_ ?_ ?_); rfl; rfl) | (refine qam ?_; (refine qac (qah rfl) rfl ?_ ?_ ?_); rfl; rfl) | (refine l_not ?_; (refine qac (OpW.not rfl) rfl ?_ ?_ ?_); rfl; rfl) | (refine qaG ?_; (refine qac (qay rfl rfl rfl) rfl ?_ ?_ ?_); rfl; rfl) | (refine l_box ?_; refine qaM ?_ ?_ rfl rfl (fun g => ?_); rfl; rfl) | ((first | rw [q0] | rw [q1] | rw [q2] | rw [q3] | rw [q4] | rw [q5] | rw [q6] | rw [q7] | rw [q8] | rw [q9] | rw [q10] | rw [q11] | rw [q12] | rw [q13] | rw [q14] | rw [q15] | rw [q16] | rw [q17] | rw [q18] | rw [q19] | rw [q20] | rw [q21] | rw [q22])) | refine qaz ?_)
    refine qaA rfl rfl (fun w' hl => ⟨ret_bool hv.symm, hl.mod⟩)
  have hv : styleOk x = true := by simp [styleOk, q0, q1, q2, q3, q4, q5, q6, q7, q8, q9, q10, q11, q12, q13, q14, q15, q16, q17, q18, q19, q20, q21, q22]
  repeat (first | refine qan ?_ | refine qaj ?_ | refine qaf ?_ | refine qad ?_ | refine qaC ?_ | refine qat rfl ?_ | (refine qau ?_; (first | refine qac (qao rfl (fun w hl => ssizeOk_any _ _)) rfl ?_ ?_ ?_ | refine qac (qao rfl (fun w hl => ssidesOk_any _ _)) rfl ?_ ?_ ?_ | refine qac (qao rfl (fun w hl => sedgesOk_any _ _)) rfl ?_ ?_ ?_ | refine qac (qaN rfl (fun w _ => l01In_any _ _ _ _)) rfl ?_ ?_ ?_); rfl; rfl) | (refine qaw ?_; (first | refine qac (qav 0 rfl rfl rfl) rfl ?_ ?_ ?_ | refine qac (qaE 0 rfl rfl rfl rfl) rfl ?_ ?_ ?_); rfl; rfl) | (refine qai ?_; (refine qac (qae rfl) rfl ?_ ?_ ?_); rfl; rfl) | (refine qap ?_; (refine qac (qak rfl) rfl ?_ ?_ ?_); rfl; rfl) | (refine qam ?_; (refine qac (qah rfl) rfl ?_ ?_ ?_); rfl; rfl) | (refine l_not ?_; (refine qac (OpW.not rfl) rfl ?_ ?_ ?_); rfl; rfl) | (refine qaG ?_; (refine qac (qay rfl rfl rfl) rfl ?_ ?_ ?_); rfl; rfl) | (refine l_box ?_; refine qaM ?_ ?_ rfl rfl (fun g => ?_); rfl; rfl) | ((first | rw [q0] | rw [q1] | rw [q2] | rw [q3] | rw [q4] | rw [q5] | rw [q6] | rw [q7] | rw [q8] | rw [q9] | rw [q10] | rw [q11] | rw [q12] | rw [q13] | rw [q14] | rw [q15] | rw [q16] | rw [q17] | rw [q18] | rw [q19] | rw [q20] | rw [q21] | rw [q22])) | refine qaz ?_)
  refine qaA rfl rfl (fun w' hl => ⟨ret_bool hv.symm, hl.mod⟩)

end Go.Proofs.Ythffgbhphjkdeaa
namespace Go.Proofs.Ythffgbhphjkdeaa
open Go.RowKit
set_option linter.unusedVariables false
set_option linter.unusedSimpArgs false

def vals7 (x : Style) : List Val := [x.basis, x.width, x.height, x.minWidth, x.minHeight, x.maxWidth, x.maxHeight]
theorem vals7_at (x : Style) {k : Nat} (h : k < 7) : ∃ v, (vals7 x)[k]? = some v ∧ (([.int .i64 x.basis.kind, .int .i64 x.basis.n, .int .i64 x.width.kind, .int .i64 x.width.n, .int .i64 x.height.kind, .int .i64 x.height.n, .int .i64 x.minWidth.kind, .int .i64 x.minWidth.n, .int .i64 x.minHeight.kind, .int .i64 x.minHeight.n, .int .i64 x.maxWidth.kind, .int .i64 x.maxWidth.n, .int .i64 x.maxHeight.kind, .int .i64 x.maxHeight.n] : List Value).drop (0 + k * 2)).take 2 = [.int .i64 v.kind, .int .i64 v.n] := by
  obtain (rfl|rfl|rfl|rfl|rfl|rfl|rfl) : k = 0 ∨ k = 1 ∨ k = 2 ∨ k = 3 ∨ k = 4 ∨ k = 5 ∨ k = 6 := by omega
  all_goals exact ⟨_, rfl, rfl⟩
theorem styleOk_size {x : Style} {v : Val} {k : Nat} (h : (vals7 x)[k]? = some v) (hb : sizeOk v = false) : styleOk x = false := by
  have hm := List.mem_of_getElem? h
  simp only [vals7, List.mem_cons, List.not_mem_nil, or_false] at hm
  rcases hm with rfl|rfl|rfl|rfl|rfl|rfl|rfl <;> simp [styleOk, hb]
theorem vto_succ {l : List Val} {k : Nat} {v : Val} (hs : ∀ i x, i < k → l[i]? = some x → sizeOk x = true) (hx : l[k]? = some v) (h : sizeOk v = true) : ∀ i x, i < k + 1 → l[i]? = some x → sizeOk x = true := fun j y hj hy => by
  by_cases e : j = k
  · subst e; rw [hx] at hy; rw [← Option.some.inj hy]; exact h
  · exact hs j y (by omega) hy
theorem vals7_all {x : Style} (hs : ∀ i v, i < 7 → (vals7 x)[i]? = some v → sizeOk v = true) : sizeOk x.basis = true ∧ sizeOk x.width = true ∧ sizeOk x.height = true ∧ sizeOk x.minWidth = true ∧ sizeOk x.minHeight = true ∧ sizeOk x.maxWidth = true ∧ sizeOk x.maxHeight = true :=
  ⟨hs 0 _ (by omega) rfl, hs 1 _ (by omega) rfl, hs 2 _ (by omega) rfl, hs 3 _ (by omega) rfl, hs 4 _ (by omega) rfl, hs 5 _ (by omega) rfl, hs 6 _ (by omega) rfl⟩
set_option maxRecDepth 100000 in
set_option maxHeartbeats 8000000 in
theorem styleOk_any (x : Style) (w : World) : Calls Try.prog 82 #[.agg #[.int .i64 x.dir, .int .i64 x.wrap, .int .i64 x.justify, .int .i64 x.items, .int .i64 x.self, .int .i64 x.content, .bool x.apart, .bool x.hidden, .int .i64 x.order, .int .i64 x.grow, .int .i64 x.shrink, .int .i64 x.basis.kind, .int .i64 x.basis.n, .int .i64 x.width.kind, .int .i64 x.width.n, .int .i64 x.height.kind, .int .i64 x.height.n, .int .i64 x.minWidth.kind, .int .i64 x.minWidth.n, .int .i64 x.minHeight.kind, .int .i64 x.minHeight.n, .int .i64 x.maxWidth.kind, .int .i64 x.maxWidth.n, .int .i64 x.maxHeight.kind, .int .i64 x.maxHeight.n, .int .i64 x.ratio, .int .i64 x.margin.left.kind, .int .i64 x.margin.left.n, .int .i64 x.margin.top.kind, .int .i64 x.margin.top.n, .int .i64 x.margin.right.kind, .int .i64 x.margin.right.n, .int .i64 x.margin.bottom.kind, .int .i64 x.margin.bottom.n, .int .i64 x.margin.start.kind, .int .i64 x.margin.start.n, .int .i64 x.margin.stop.kind, .int .i64 x.margin.stop.n, .int .i64 x.inset.left.kind, .int .i64 x.inset.left.n, .int .i64 x.inset.top.kind, .int .i64 x.inset.top.n, .int .i64 x.inset.right.kind, .int .i64 x.inset.right.n, .int .i64 x.inset.bottom.kind, .int .i64 x.inset.bottom.n, .int .i64 x.inset.start.kind, .int .i64 x.inset.start.n, .int .i64 x.inset.stop.kind, .int .i64 x.inset.stop.n, .int .i64 x.pad.left, .int .i64 x.pad.top, .int .i64 x.pad.right, .int .i64 x.pad.bottom, .int .i64 x.border.left, .int .i64 x.border.top, .int .i64 x.border.right, .int .i64 x.border.bottom, .int .i64 x.rowGap, .int .i64 x.colGap]] w fun e w' => e = .returned (.bool (styleOk x)) ∧ Mod (fun _ => False) w w' := by
  refine calls_sx Try.func82 rfl rfl (fun a h1 h2 h3 => ((Fr.nil h1 h2).arg (h3 0 _ rfl))) ?_
  cases q0 : inB x.dir 1 4
  · have hv : styleOk x = false := by simp [styleOk, q0]
    repeat (first | refine qan ?_ | refine qaj ?_ | refine qaf ?_ | refine qad ?_ | refine qaq rfl ?_ | (refine qaS rfl rfl rfl ?_) | (refine qau ?_; (refine qac (qaN rfl (fun w _ => in_any _ _ _ _)) rfl ?_ ?_ ?_); rfl; rfl) | (refine qaw ?_; (refine qac (qav 0 rfl rfl rfl) rfl ?_ ?_ ?_); rfl; rfl) | (refine qai ?_; (refine qac (qae rfl) rfl ?_ ?_ ?_); rfl; rfl) | (refine qap ?_; (refine qac (qak rfl) rfl ?_ ?_ ?_); rfl; rfl) | (refine qam ?_; (refine qac (qah rfl) rfl ?_ ?_ ?_); rfl; rfl) | (refine l_not ?_; (refine qac (OpW.not rfl) rfl ?_ ?_ ?_); rfl; rfl) | (refine qaG ?_; (refine qac (qay rfl rfl rfl) rfl ?_ ?_ ?_); rfl; rfl) | (refine l_box ?_; refine qaM ?_ ?_ rfl rfl (fun g => ?_); rfl; rfl) | ((rw [q0])) | refine qaz ?_ | refine qax ?_)
    refine qaA rfl rfl (fun w' hl => ⟨ret_bool hv.symm, hl.mod⟩)
  cases q1 : inB x.wrap 1 3
  · have hv : styleOk x = false := by simp [styleOk, q1]
    repeat (first | refine qan ?_ | refine qaj ?_ | refine qaf ?_ | refine qad ?_ | refine qaq rfl ?_ | (refine qaS rfl rfl rfl ?_) | (refine qau ?_; (refine qac (qaN rfl (fun w _ => in_any _ _ _ _)) rfl ?_ ?_ ?_); rfl; rfl) | (refine qaw ?_; (refine qac (qav 0 rfl rfl rfl) rfl ?_ ?_ ?_); rfl; rfl) | (refine qai ?_; (refine qac (qae rfl) rfl ?_ ?_ ?_); rfl; rfl) | (refine qap ?_; (refine qac (qak rfl) rfl ?_ ?_ ?_); rfl; rfl) | (refine qam ?_; (refine qac (qah rfl) rfl ?_ ?_ ?_); rfl; rfl) | (refine l_not ?_; (refine qac (OpW.not rfl) rfl ?_ ?_ ?_); rfl; rfl) | (refine qaG ?_; (refine qac (qay rfl rfl rfl) rfl ?_ ?_ ?_); rfl; rfl) | (refine l_box ?_; refine qaM ?_ ?_ rfl rfl (fun g => ?_); rfl; rfl) | ((first | rw [q0] | rw [q1])) | refine qaz ?_ | refine qax ?_)
    refine qaA rfl rfl (fun w' hl => ⟨ret_bool hv.symm, hl.mod⟩)
  cases q2 : inB x.justify 1 6
  · have hv : styleOk x = false := by simp [styleOk, q2]
    repeat (first | refine qan ?_ | refine qaj ?_ | refine qaf ?_ | refine qad ?_ | refine qaq rfl ?_ | (refine qaS rfl rfl rfl ?_) | (refine qau ?_; (refine qac (qaN rfl (fun w _ => in_any _ _ _ _)) rfl ?_ ?_ ?_); rfl; rfl) | (refine qaw ?_; (refine qac (qav 0 rfl rfl rfl) rfl ?_ ?_ ?_); rfl; rfl) | (refine qai ?_; (refine qac (qae rfl) rfl ?_ ?_ ?_); rfl; rfl) | (refine qap ?_; (refine qac (qak rfl) rfl ?_ ?_ ?_); rfl; rfl) | (refine qam ?_; (refine qac (qah rfl) rfl ?_ ?_ ?_); rfl; rfl) | (refine l_not ?_; (refine qac (OpW.not rfl) rfl ?_ ?_ ?_); rfl; rfl) | (refine qaG ?_; (refine qac (qay rfl rfl rfl) rfl ?_ ?_ ?_); rfl; rfl) | (refine l_box ?_; refine qaM ?_ ?_ rfl rfl (fun g => ?_); rfl; rfl) | ((first | rw [q0] | rw [q1] | rw [q2])) | refine qaz ?_ | refine qax ?_)
    refine qaA rfl rfl (fun w' hl => ⟨ret_bool hv.symm, hl.mod⟩)
  cases q3 : inB x.self 0 5
  · have hv : styleOk x = false := by simp [styleOk, q3]
    repeat (first | refine qan ?_ | refine qaj ?_ | refine qaf ?_ | refine qad ?_ | refine qaq rfl ?_ | (refine qaS rfl rfl rfl ?_) | (refine qau ?_; (refine qac (qaN rfl (fun w _ => in_any _ _ _ _)) rfl ?_ ?_ ?_); rfl; rfl) | (refine qaw ?_; (refine qac (qav 0 rfl rfl rfl) rfl ?_ ?_ ?_); rfl; rfl) | (refine qai ?_; (refine qac (qae rfl) rfl ?_ ?_ ?_); rfl; rfl) | (refine qap ?_; (refine qac (qak rfl) rfl ?_ ?_ ?_); rfl; rfl) | (refine qam ?_; (refine qac (qah rfl) rfl ?_ ?_ ?_); rfl; rfl) | (refine l_not ?_; (refine qac (OpW.not rfl) rfl ?_ ?_ ?_); rfl; rfl) | (refine qaG ?_; (refine qac (qay rfl rfl rfl) rfl ?_ ?_ ?_); rfl; rfl) | (refine l_box ?_; refine qaM ?_ ?_ rfl rfl (fun g => ?_); rfl; rfl) | ((first | rw [q0] | rw [q1] | rw [q2] | rw [q3])) | refine qaz ?_ | refine qax ?_)
    refine qaA rfl rfl (fun w' hl => ⟨ret_bool hv.symm, hl.mod⟩)
  cases q4 : inB x.content 1 6
  · have hv : styleOk x = false := by simp [styleOk, q4]
    repeat (first | refine qan ?_ | refine qaj ?_ | refine qaf ?_ | refine qad ?_ | refine qaq rfl ?_ | (refine qaS rfl rfl rfl ?_) | (refine qau ?_; (refine qac (qaN rfl (fun w _ => in_any _ _ _ _)) rfl ?_ ?_ ?_); rfl; rfl) | (refine qaw ?_; (refine qac (qav 0 rfl rfl rfl) rfl ?_ ?_ ?_); rfl; rfl) | (refine qai ?_; (refine qac (qae rfl) rfl ?_ ?_ ?_); rfl; rfl) | (refine qap ?_; (refine qac (qak rfl) rfl ?_ ?_ ?_); rfl; rfl) | (refine qam ?_; (refine qac (qah rfl) rfl ?_ ?_ ?_); rfl; rfl) | (refine l_not ?_; (refine qac (OpW.not rfl) rfl ?_ ?_ ?_); rfl; rfl) | (refine qaG ?_; (refine qac (qay rfl rfl rfl) rfl ?_ ?_ ?_); rfl; rfl) | (refine l_box ?_; refine qaM ?_ ?_ rfl rfl (fun g => ?_); rfl; rfl) | ((first | rw [q0] | rw [q1] | rw [q2] | rw [q3] | rw [q4])) | refine qaz ?_ | refine qax ?_)
    refine qaA rfl rfl (fun w' hl => ⟨ret_bool hv.symm, hl.mod⟩)
  cases q5 : inB x.items 1 5
  · have hv : styleOk x = false := by simp [styleOk, q5]
    repeat (first | refine qan ?_ | refine qaj ?_ | refine qaf ?_ | refine qad ?_ | refine qaq rfl ?_ | (refine qau ?_; (refine qac (qaN rfl (fun w _ => in_any _ _ _ _)) rfl ?_ ?_ ?_); rfl; rfl) | (refine qaw ?_; (refine qac (qav 0 rfl rfl rfl) rfl ?_ ?_ ?_); rfl; rfl) | (refine qai ?_; (refine qac (qae rfl) rfl ?_ ?_ ?_); rfl; rfl) | (refine qap ?_; (refine qac (qak rfl) rfl ?_ ?_ ?_); rfl; rfl) | (refine qam ?_; (refine qac (qah rfl) rfl ?_ ?_ ?_); rfl; rfl) | (refine l_not ?_; (refine qac (OpW.not rfl) rfl ?_ ?_ ?_); rfl; rfl) | (refine qaG ?_; (refine qac (qay rfl rfl rfl) rfl ?_ ?_ ?_); rfl; rfl) | (refine l_box ?_; refine qaM ?_ ?_ rfl rfl (fun g => ?_); rfl; rfl) | ((first | rw [q0] | rw [q1] | rw [q2] | rw [q3] | rw [q4] | rw [q5])) | refine qaz ?_ | refine qax ?_)
    refine qaA rfl rfl (fun w' hl => ⟨ret_bool hv.symm, hl.mod⟩)
  cases q6 : inB x.order (-1000) 1000
  · have hv : styleOk x = false := by simp [styleOk, q6]
    repeat (first | refine qan ?_ | refine qaj ?_ | refine qaf ?_ | refine qad ?_ | refine qaC ?_ | refine qaq rfl ?_ | refine qat rfl ?_ | (refine qaS rfl rfl rfl ?_) | (refine qau ?_; (refine qac (qaN rfl (fun w _ => in_any _ _ _ _)) rfl ?_ ?_ ?_); rfl; rfl) | (refine qaw ?_; (refine qac (qav 0 rfl rfl rfl) rfl ?_ ?_ ?_); rfl; rfl) | (refine qai ?_; (refine qac (qae rfl) rfl ?_ ?_ ?_); rfl; rfl) | (refine qap ?_; (refine qac (qak rfl) rfl ?_ ?_ ?_); rfl; rfl) | (refine qam ?_; (refine qac (qah rfl) rfl ?_ ?_ ?_); rfl; rfl) | (refine l_not ?_; (refine qac (OpW.not rfl) rfl ?_ ?_ ?_); rfl; rfl) | (refine qaG ?_; (refine qac (qay rfl rfl rfl) rfl ?_ ?_ ?_); rfl; rfl) | (refine l_box ?_; refine qaM ?_ ?_ rfl rfl (fun g => ?_); rfl; rfl) | ((first | rw [q0] | rw [q1] | rw [q2] | rw [q3] | rw [q4] | rw [q5] | rw [q6])) | refine qaz ?_ | refine qax ?_)
    refine qaA rfl rfl (fun w' hl => ⟨ret_bool hv.symm, hl.mod⟩)
  cases q7 : inB x.grow 0 1000
  · have hv : styleOk x = false := by simp [styleOk, q7]
    repeat (first | refine qan ?_ | refine qaj ?_ | refine qaf ?_ | refine qad ?_ | refine qaC ?_ | refine qaq rfl ?_ | refine qat rfl ?_ | (refine qaS rfl rfl rfl ?_) | (refine qau ?_; (refine qac (qaN rfl (fun w _ => in_any _ _ _ _)) rfl ?_ ?_ ?_); rfl; rfl) | (refine qaw ?_; (refine qac (qav 0 rfl rfl rfl) rfl ?_ ?_ ?_); rfl; rfl) | (refine qai ?_; (refine qac (qae rfl) rfl ?_ ?_ ?_); rfl; rfl) | (refine qap ?_; (refine qac (qak rfl) rfl ?_ ?_ ?_); rfl; rfl) | (refine qam ?_; (refine qac (qah rfl) rfl ?_ ?_ ?_); rfl; rfl) | (refine l_not ?_; (refine qac (OpW.not rfl) rfl ?_ ?_ ?_); rfl; rfl) | (refine qaG ?_; (refine qac (qay rfl rfl rfl) rfl ?_ ?_ ?_); rfl; rfl) | (refine l_box ?_; refine qaM ?_ ?_ rfl rfl (fun g => ?_); rfl; rfl) | ((first | rw [q0] | rw [q1] | rw [q2] | rw [q3] | rw [q4] | rw [q5] | rw [q6] | rw [q7])) | refine qaz ?_ | refine qax ?_)
    refine qaA rfl rfl (fun w' hl => ⟨ret_bool hv.symm, hl.mod⟩)
  cases q8 : inB x.shrink 0 1000
  · have hv : styleOk x = false := by simp [styleOk, q8]
    repeat (first | refine qan ?_ | refine qaj ?_ | refine qaf ?_ | refine qad ?_ | refine qaC ?_ | refine qaq rfl ?_ | refine qat rfl ?_ | (refine qaS rfl rfl rfl ?_) | (refine qau ?_; (refine qac (qaN rfl (fun w _ => in_any _ _ _ _)) rfl ?_ ?_ ?_); rfl; rfl) | (refine qaw ?_; (refine qac (qav 0 rfl rfl rfl) rfl ?_ ?_ ?_); rfl; rfl) | (refine qai ?_; (refine qac (qae rfl) rfl ?_ ?_ ?_); rfl; rfl) | (refine qap ?_; (refine qac (qak rfl) rfl ?_ ?_ ?_); rfl; rfl) | (refine qam ?_; (refine qac (qah rfl) rfl ?_ ?_ ?_); rfl; rfl) | (refine l_not ?_; (refine qac (OpW.not rfl) rfl ?_ ?_ ?_); rfl; rfl) | (refine qaG ?_; (refine qac (qay rfl rfl rfl) rfl ?_ ?_ ?_); rfl; rfl) | (refine l_box ?_; refine qaM ?_ ?_ rfl rfl (fun g => ?_); rfl; rfl) | ((first | rw [q0] | rw [q1] | rw [q2] | rw [q3] | rw [q4] | rw [q5] | rw [q6] | rw [q7] | rw [q8])) | refine qaz ?_ | refine qax ?_)
    refine qaA rfl rfl (fun w' hl => ⟨ret_bool hv.symm, hl.mod⟩)
  cases q9 : inB x.ratio 0 6400
  · have hv : styleOk x = false := by simp [styleOk, q9]
    repeat (first | refine qan ?_ | refine qaj ?_ | refine qaf ?_ | refine qad ?_ | refine qaC ?_ | refine qaq rfl ?_ | refine qat rfl ?_ | (refine qaS rfl rfl rfl ?_) | (refine qau ?_; (refine qac (qaN rfl (fun w _ => in_any _ _ _ _)) rfl ?_ ?_ ?_); rfl; rfl) | (refine qaw ?_; (refine qac (qav 0 rfl rfl rfl) rfl ?_ ?_ ?_); rfl; rfl) | (refine qai ?_; (refine qac (qae rfl) rfl ?_ ?_ ?_); rfl; rfl) | (refine qap ?_; (refine qac (qak rfl) rfl ?_ ?_ ?_); rfl; rfl) | (refine qam ?_; (refine qac (qah rfl) rfl ?_ ?_ ?_); rfl; rfl) | (refine l_not ?_; (refine qac (OpW.not rfl) rfl ?_ ?_ ?_); rfl; rfl) | (refine qaG ?_; (refine qac (qay rfl rfl rfl) rfl ?_ ?_ ?_); rfl; rfl) | (refine l_box ?_; refine qaM ?_ ?_ rfl rfl (fun g => ?_); rfl; rfl) | ((first | rw [q0] | rw [q1] | rw [q2] | rw [q3] | rw [q4] | rw [q5] | rw [q6] | rw [q7] | rw [q8] | rw [q9])) | refine qaz ?_ | refine qax ?_)
    refine qaA rfl rfl (fun w' hl => ⟨ret_bool hv.symm, hl.mod⟩)
  cases q10 : inB x.rowGap 0 1048576
  · have hv : styleOk x = false := by simp [styleOk, q10]
    repeat (first | refine qan ?_ | refine qaj ?_ | refine qaf ?_ | refine qad ?_ | refine qaC ?_ | refine qaq rfl ?_ | refine qat rfl ?_ | (refine qaS rfl rfl rfl ?_) | (refine qau ?_; (refine qac (qaN rfl (fun w _ => in_any _ _ _ _)) rfl ?_ ?_ ?_); rfl; rfl) | (refine qaw ?_; (refine qac (qav 0 rfl rfl rfl) rfl ?_ ?_ ?_); rfl; rfl) | (refine qai ?_; (refine qac (qae rfl) rfl ?_ ?_ ?_); rfl; rfl) | (refine qap ?_; (refine qac (qak rfl) rfl ?_ ?_ ?_); rfl; rfl) | (refine qam ?_; (refine qac (qah rfl) rfl ?_ ?_ ?_); rfl; rfl) | (refine l_not ?_; (refine qac (OpW.not rfl) rfl ?_ ?_ ?_); rfl; rfl) | (refine qaG ?_; (refine qac (qay rfl rfl rfl) rfl ?_ ?_ ?_); rfl; rfl) | (refine l_box ?_; refine qaM ?_ ?_ rfl rfl (fun g => ?_); rfl; rfl) | ((first | rw [q0] | rw [q1] | rw [q2] | rw [q3] | rw [q4] | rw [q5] | rw [q6] | rw [q7] | rw [q8] | rw [q9] | rw [q10])) | refine qaz ?_ | refine qax ?_)
    refine qaA rfl rfl (fun w' hl => ⟨ret_bool hv.symm, hl.mod⟩)
  cases q11 : inB x.colGap 0 1048576
  · have hv : styleOk x = false := by simp [styleOk, q11]
    repeat (first | refine qan ?_ | refine qaj ?_ | refine qaf ?_ | refine qad ?_ | refine qaC ?_ | refine qaq rfl ?_ | refine qat rfl ?_ | (refine qau ?_; (refine qac (qaN rfl (fun w _ => in_any _ _ _ _)) rfl ?_ ?_ ?_); rfl; rfl) | (refine qaw ?_; (refine qac (qav 0 rfl rfl rfl) rfl ?_ ?_ ?_); rfl; rfl) | (refine qai ?_; (refine qac (qae rfl) rfl ?_ ?_ ?_); rfl; rfl) | (refine qap ?_; (refine qac (qak rfl) rfl ?_ ?_ ?_); rfl; rfl) | (refine qam ?_; (refine qac (qah rfl) rfl ?_ ?_ ?_); rfl; rfl) | (refine l_not ?_; (refine qac (OpW.not rfl) rfl ?_ ?_ ?_); rfl; rfl) | (refine qaG ?_; (refine qac (qay rfl rfl rfl) rfl ?_ ?_ ?_); rfl; rfl) | (refine l_box ?_; refine qaM ?_ ?_ rfl rfl (fun g => ?_); rfl; rfl) | ((first | rw [q0] | rw [q1] | rw [q2] | rw [q3] | rw [q4] | rw [q5] | rw [q6] | rw [q7] | rw [q8] | rw [q9] | rw [q10] | rw [q11])) | refine qaz ?_ | refine qax ?_)
    refine qaA rfl rfl (fun w' hl => ⟨ret_bool hv.symm, hl.mod⟩)
  repeat (first | refine qan ?_ | refine qaj ?_ | refine qaf ?_ | refine qad ?_ | refine qaC ?_ | refine qat rfl ?_ | (refine qau ?_; (refine qac (qaN rfl (fun w _ => in_any _ _ _ _)) rfl ?_ ?_ ?_); rfl; rfl) | (refine qaw ?_; (first | refine qac (qav 0 rfl rfl rfl) rfl ?_ ?_ ?_ | refine qac (qaE 0 rfl rfl rfl rfl) rfl ?_ ?_ ?_); rfl; rfl) | (refine qai ?_; (refine qac (qae rfl) rfl ?_ ?_ ?_); rfl; rfl) | (refine qap ?_; (refine qac (qak rfl) rfl ?_ ?_ ?_); rfl; rfl) | (refine qam ?_; (refine qac (qah rfl) rfl ?_ ?_ ?_); rfl; rfl) | (refine l_not ?_; (refine qac (OpW.not rfl) rfl ?_ ?_ ?_); rfl; rfl) | (refine qaG ?_; (refine qac (qay rfl rfl rfl) rfl ?_ ?_ ?_); rfl; rfl) | (refine l_box ?_; refine qaM ?_ ?_ rfl rfl (fun g => ?_); rfl; rfl) | ((first | rw [q0] | rw [q1] | rw [q2] | rw [q3] | rw [q4] | rw [q5] | rw [q6] | rw [q7] | rw [q8] | rw [q9] | rw [q10] | rw [q11])))
  refine qaR ?_
  refine SXl.litRow (cells := [.int .i64 x.basis.kind, .int .i64 x.basis.n, .int .i64 x.width.kind, .int .i64 x.width.n, .int .i64 x.height.kind, .int .i64 x.height.n, .int .i64 x.minWidth.kind, .int .i64 x.minWidth.n, .int .i64 x.minHeight.kind, .int .i64 x.minHeight.n, .int .i64 x.maxWidth.kind, .int .i64 x.maxWidth.n, .int .i64 x.maxHeight.kind, .int .i64 x.maxHeight.n]) ?_ ?_ rfl (by decide) (by decide) ?_ (fun g5 => ?_)
  rfl
  rfl
  kernel_rfl
  repeat (first | refine qaj ?_ | refine qad ?_ | refine SX.block ?_ | (refine qap ?_; (refine qac (qak rfl) rfl ?_ ?_ ?_); rfl; rfl) | (refine l_len ?_; (refine qac (OpW.len rfl) rfl ?_ ?_ ?_); rfl; rfl))
  refine SX.loopi (fun k : Nat => k ≤ 7 ∧ ∀ i v, i < k → (vals7 x)[i]? = some v → sizeOk v = true) (fun k => 7 - k) (fun _ => [⟨g5, [.int .i64 x.basis.kind, .int .i64 x.basis.n, .int .i64 x.width.kind, .int .i64 x.width.n, .int .i64 x.height.kind, .int .i64 x.height.n, .int .i64 x.minWidth.kind, .int .i64 x.minWidth.n, .int .i64 x.minHeight.kind, .int .i64 x.minHeight.n, .int .i64 x.maxWidth.kind, .int .i64 x.maxWidth.n, .int .i64 x.maxHeight.kind, .int .i64 x.maxHeight.n], 60⟩, ⟨g, x.cells, 66⟩]) (fun _ => []) (fun _ => []) (fun k => [(1, .pointer (some ⟨g, 0, none⟩)), (87, .slice (some ⟨g5, 0, none⟩) 7 7), (88, .int .i64 7), (89, .int .i64 k)]) 0 ⟨Nat.zero_le _, fun i x h => absurd h (Nat.not_lt_zero _)⟩ ?_ (fun _ hl => hl) ?_
  · (repeat (first | exact subF_nil _ | (refine subF_cons rfl ?_) | (refine subF_consv rfl (by rfl) ?_)))
  rintro k ⟨hk, hs⟩
  by_cases hlt : k < 7
  · obtain ⟨v, hv7, hrow⟩ := vals7_at x hlt
    have hle : 0 + k * 2 + 2 ≤ 14 := by omega
    cases hb : sizeOk v
    · have hv := styleOk_size hv7 hb
      repeat (first | refine qan ?_ | refine qaj ?_ | refine qaf ?_ | refine qad ?_ | refine SX.block ?_ | refine qaC ?_ | refine qaq rfl ?_ | (refine qaw ?_; (first | refine qac (qaE (cells := [.int .i64 x.basis.kind, .int .i64 x.basis.n, .int .i64 x.width.kind, .int .i64 x.width.n, .int .i64 x.height.kind, .int .i64 x.height.n, .int .i64 x.minWidth.kind, .int .i64 x.minWidth.n, .int .i64 x.minHeight.kind, .int .i64 x.minHeight.n, .int .i64 x.maxWidth.kind, .int .i64 x.maxWidth.n, .int .i64 x.maxHeight.kind, .int .i64 x.maxHeight.n]) 0 rfl rfl (Nat.ble_eq_true_of_le hle) hrow) rfl ?_ ?_ ?_ | refine qac (qal 0 rfl rfl rfl) rfl ?_ ?_ ?_); rfl; rfl) | (refine qau ?_; (refine qac (qao rfl (fun w hl => sizeOk_any _ _)) rfl ?_ ?_ ?_); rfl; rfl) | (refine qam ?_; (refine qac (qah rfl) rfl ?_ ?_ ?_); rfl; rfl) | (refine l_lss ?_; (refine qac (OpW.lssT rfl rfl (by omega)) rfl ?_ ?_ ?_); rfl; rfl) | (refine l_not ?_; (refine qac (OpW.not rfl) rfl ?_ ?_ ?_); rfl; rfl) | (refine qaI ?_; (refine qac (qaF (by omega) rfl rfl) rfl ?_ ?_ ?_); rfl; rfl) | (refine qaH ?_; refine SXl.alloc ?_ ?_ (fun g => ?_); rfl; rfl) | (refine qas ?_; first | ((first | refine qaa 0 ?_ rfl rfl rfl rfl rfl rfl rfl ?_ | refine qaa 1 ?_ rfl rfl rfl rfl rfl rfl rfl ?_ | refine qaa 2 ?_ rfl rfl rfl rfl rfl rfl rfl ?_); rfl; simp only [List.set_cons_zero, List.set_cons_succ]) | ((first | refine qab 0 ?_ rfl rfl rfl rfl rfl rfl rfl ?_ | refine qab 1 ?_ rfl rfl rfl rfl rfl rfl rfl ?_ | refine qab 2 ?_ rfl rfl rfl rfl rfl rfl rfl ?_); rfl; simp only [over, List.set_cons_zero, List.set_cons_succ])) | (rw [hb]) | refine qaz ?_ | refine qax ?_ | refine qaD ?_)
      refine qaA rfl rfl (fun w' hl => ⟨ret_bool hv.symm, hl.mod⟩)
    · repeat (first | refine qan ?_ | refine qaj ?_ | refine qaf ?_ | refine qad ?_ | refine SX.block ?_ | refine qaC ?_ | refine qaq rfl ?_ | refine qat rfl ?_ | (refine qaw ?_; (first | refine qac (qaE (cells := [.int .i64 x.basis.kind, .int .i64 x.basis.n, .int .i64 x.width.kind, .int .i64 x.width.n, .int .i64 x.height.kind, .int .i64 x.height.n, .int .i64 x.minWidth.kind, .int .i64 x.minWidth.n, .int .i64 x.minHeight.kind, .int .i64 x.minHeight.n, .int .i64 x.maxWidth.kind, .int .i64 x.maxWidth.n, .int .i64 x.maxHeight.kind, .int .i64 x.maxHeight.n]) 0 rfl rfl (Nat.ble_eq_true_of_le hle) hrow) rfl ?_ ?_ ?_ | refine qac (qal 0 rfl rfl rfl) rfl ?_ ?_ ?_); rfl; rfl) | (refine qau ?_; (refine qac (qao rfl (fun w hl => sizeOk_any _ _)) rfl ?_ ?_ ?_); rfl; rfl) | (refine qap ?_; (refine qac (qak rfl) rfl ?_ ?_ ?_); rfl; rfl) | (refine l_add ?_; (refine qac (OpW.succ rfl rfl (by omega)) rfl ?_ ?_ ?_); rfl; rfl) | (refine l_lss ?_; (refine qac (OpW.lssT rfl rfl (by omega)) rfl ?_ ?_ ?_); rfl; rfl) | (refine l_not ?_; (refine qac (OpW.not rfl) rfl ?_ ?_ ?_); rfl; rfl) | (refine qaI ?_; (refine qac (qaF (by omega) rfl rfl) rfl ?_ ?_ ?_); rfl; rfl) | (refine qaH ?_; refine SXl.alloc ?_ ?_ (fun g => ?_); rfl; rfl) | (refine qas ?_; first | ((first | refine qaa 0 ?_ rfl rfl rfl rfl rfl rfl rfl ?_ | refine qaa 1 ?_ rfl rfl rfl rfl rfl rfl rfl ?_ | refine qaa 2 ?_ rfl rfl rfl rfl rfl rfl rfl ?_); rfl; simp only [List.set_cons_zero, List.set_cons_succ]) | ((first | refine qab 0 ?_ rfl rfl rfl rfl rfl rfl rfl ?_ | refine qab 1 ?_ rfl rfl rfl rfl rfl rfl rfl ?_ | refine qab 2 ?_ rfl rfl rfl rfl rfl rfl rfl ?_); rfl; simp only [over, List.set_cons_zero, List.set_cons_succ])) | (rw [hb]) | refine qar ?_)
      refine SQ.roundi (k + 1) ⟨by omega, vto_succ hs hv7 hb⟩ (by omega) ?_ (fun _ hl => hl.drop1)
      (repeat (first | exact subF_nil _ | (refine subF_cons rfl ?_) | (refine subF_consv rfl (by rfl) ?_)))
  have hk7 : k = 7 := by omega
  subst hk7
  have hall := vals7_all hs
  cases p0 : sidesOk x.margin
  · have hv : styleOk x = false := by simp [styleOk, p0]
    repeat (first | refine qan ?_ | refine qaj ?_ | refine qaf ?_ | refine qad ?_ | refine qat rfl ?_ | (refine qaS rfl rfl rfl ?_) | (refine qau ?_; (refine qac (qao rfl (fun w hl => sidesOk_any _ _)) rfl ?_ ?_ ?_); rfl; rfl) | (refine qaw ?_; (refine qac (qaE 1 rfl rfl rfl rfl) rfl ?_ ?_ ?_); rfl; rfl) | (refine qai ?_; (refine qac (qae rfl) rfl ?_ ?_ ?_); rfl; rfl) | (refine qap ?_; (refine qac (qak rfl) rfl ?_ ?_ ?_); rfl; rfl) | (refine qam ?_; (refine qac (qah rfl) rfl ?_ ?_ ?_); rfl; rfl) | (refine l_lss ?_; (refine qac (OpW.lssF rfl rfl (by omega)) rfl ?_ ?_ ?_); rfl; rfl) | (refine qaG ?_; (refine qac (qay rfl rfl rfl) rfl ?_ ?_ ?_); rfl; rfl) | ((rw [p0])) | refine qaz ?_ | refine SX.exit ?_ | refine qaO ?_ | refine qaK ?_)
    refine qaA rfl rfl (fun w' hl => ⟨ret_bool hv.symm, hl.mod⟩)
  cases p1 : sidesOk x.inset
  · have hv : styleOk x = false := by simp [styleOk, p1]
    repeat (first | refine qan ?_ | refine qaj ?_ | refine qaf ?_ | refine qad ?_ | refine qat rfl ?_ | (refine qaS rfl rfl rfl ?_) | (refine qau ?_; (refine qac (qao rfl (fun w hl => sidesOk_any _ _)) rfl ?_ ?_ ?_); rfl; rfl) | (refine qaw ?_; (refine qac (qaE 1 rfl rfl rfl rfl) rfl ?_ ?_ ?_); rfl; rfl) | (refine qai ?_; (refine qac (qae rfl) rfl ?_ ?_ ?_); rfl; rfl) | (refine qap ?_; (refine qac (qak rfl) rfl ?_ ?_ ?_); rfl; rfl) | (refine qam ?_; (refine qac (qah rfl) rfl ?_ ?_ ?_); rfl; rfl) | (refine l_lss ?_; (refine qac (OpW.lssF rfl rfl (by omega)) rfl ?_ ?_ ?_); rfl; rfl) | (refine qaG ?_; (refine qac (qay rfl rfl rfl) rfl ?_ ?_ ?_); rfl; rfl) | ((first | rw [p0] | rw [p1])) | refine qaz ?_ | refine SX.exit ?_ | refine qaO ?_ | refine qaK ?_)
    refine qaA rfl rfl (fun w' hl => ⟨ret_bool hv.symm, hl.mod⟩)
  cases p2 : edgesOk x.pad
  · have hv : styleOk x = false := by simp [styleOk, p2]
    repeat (first | refine qan ?_ | refine qaj ?_ | refine qaf ?_ | refine qad ?_ | refine qat rfl ?_ | (refine qaS rfl rfl rfl ?_) | (refine qau ?_; (first | refine qac (qao rfl (fun w hl => sidesOk_any _ _)) rfl ?_ ?_ ?_ | refine qac (qao rfl (fun w hl => edgesOk_any _ _)) rfl ?_ ?_ ?_); rfl; rfl) | (refine qaw ?_; (refine qac (qaE 1 rfl rfl rfl rfl) rfl ?_ ?_ ?_); rfl; rfl) | (refine qai ?_; (refine qac (qae rfl) rfl ?_ ?_ ?_); rfl; rfl) | (refine qap ?_; (refine qac (qak rfl) rfl ?_ ?_ ?_); rfl; rfl) | (refine qam ?_; (refine qac (qah rfl) rfl ?_ ?_ ?_); rfl; rfl) | (refine l_lss ?_; (refine qac (OpW.lssF rfl rfl (by omega)) rfl ?_ ?_ ?_); rfl; rfl) | (refine qaG ?_; (refine qac (qay rfl rfl rfl) rfl ?_ ?_ ?_); rfl; rfl) | ((first | rw [p0] | rw [p1] | rw [p2])) | refine qaz ?_ | refine SX.exit ?_ | refine qaO ?_ | refine qaK ?_)
    refine qaA rfl rfl (fun w' hl => ⟨ret_bool hv.symm, hl.mod⟩)
  cases p3 : edgesOk x.border
  · have hv : styleOk x = false := by simp [styleOk, p3]
    repeat (first | refine qan ?_ | refine qaj ?_ | refine qaf ?_ | refine qad ?_ | refine qat rfl ?_ | (refine qau ?_; (first | refine qac (qao rfl (fun w hl => sidesOk_any _ _)) rfl ?_ ?_ ?_ | refine qac (qao rfl (fun w hl => edgesOk_any _ _)) rfl ?_ ?_ ?_); rfl; rfl) | (refine qaw ?_; (refine qac (qaE 1 rfl rfl rfl rfl) rfl ?_ ?_ ?_); rfl; rfl) | (refine qai ?_; (refine qac (qae rfl) rfl ?_ ?_ ?_); rfl; rfl) | (refine qap ?_; (refine qac (qak rfl) rfl ?_ ?_ ?_); rfl; rfl) | (refine qam ?_; (refine qac (qah rfl) rfl ?_ ?_ ?_); rfl; rfl) | (refine l_lss ?_; (refine qac (OpW.lssF rfl rfl (by omega)) rfl ?_ ?_ ?_); rfl; rfl) | (refine qaG ?_; (refine qac (qay rfl rfl rfl) rfl ?_ ?_ ?_); rfl; rfl) | ((first | rw [p0] | rw [p1] | rw [p2] | rw [p3])) | refine qaz ?_ | refine SX.exit ?_ | refine qaO ?_ | refine qaK ?_)
    refine qaA rfl rfl (fun w' hl => ⟨ret_bool hv.symm, hl.mod⟩)
  have hv : styleOk x = true := by simp [styleOk, hall, q0, q1, q2, q3, q4, q5, q6, q7, q8, q9, q10, q11, p0, p1, p2, p3]
  repeat (first | refine qan ?_ | refine qaj ?_ | refine qaf ?_ | refine qad ?_ | refine qat rfl ?_ | (refine qau ?_; (first | refine qac (qao rfl (fun w hl => sidesOk_any _ _)) rfl ?_ ?_ ?_ | refine qac (qao rfl (fun w hl => edgesOk_any _ _)) rfl ?_ ?_ ?_); rfl; rfl) | (refine qaw ?_; (refine qac (qaE 1 rfl rfl rfl rfl) rfl ?_ ?_ ?_); rfl; rfl) | (refine qai ?_; (refine qac (qae rfl) rfl ?_ ?_ ?_); rfl; rfl) | (refine qap ?_; (refine qac (qak rfl) rfl ?_ ?_ ?_); rfl; rfl) | (refine qam ?_; (refine qac (qah rfl) rfl ?_ ?_ ?_); rfl; rfl) | (refine l_lss ?_; (refine qac (OpW.lssF rfl rfl (by omega)) rfl ?_ ?_ ?_); rfl; rfl) | (refine qaG ?_; (refine qac (qay rfl rfl rfl) rfl ?_ ?_ ?_); rfl; rfl) | ((first | rw [p0] | rw [p1] | rw [p2] | rw [p3])) | refine qaz ?_ | refine SX.exit ?_ | refine qaO ?_ | refine qaK ?_)
  refine qaA rfl rfl (fun w' hl => ⟨ret_bool hv.symm, hl.mod⟩)

end Go.Proofs.Ythffgbhphjkdeaa
namespace Go.Proofs.Ythffgbhphjkdeaa
open Go.RowKit
set_option linter.unusedVariables false
set_option linter.unusedSimpArgs false

def ruleOk (x : Rule) : Bool := inB x.room (-1) 1048576 && inB x.wide 0 1048576 && inB x.high 0 1048576
def tableOk (l : List Rule) : Bool := inB (l.length : Int) 1 6 && l.all ruleOk
theorem tableOk_no {l : List Rule} {k : Nat} {x : Rule} (hx : l[k]? = some x) (h : ruleOk x = false) : tableOk l = false := by
  have : l.all ruleOk = false := by
    rw [List.all_eq_false]
    exact ⟨x, List.mem_of_getElem? hx, by simp [h]⟩
  simp [tableOk, this]
theorem allTo_succ {l : List Rule} {k : Nat} {x : Rule} (hs : ∀ i x, i < k → l[i]? = some x → ruleOk x = true) (hx : l[k]? = some x) (h : ruleOk x = true) : ∀ i x, i < k + 1 → l[i]? = some x → ruleOk x = true := by
  intro i y hi hy
  by_cases e : i = k
  · subst e; rw [hx] at hy; cases hy; exact h
  · exact hs i y (by omega) hy
theorem all_of {l : List Rule} {k : Nat} (hs : ∀ i x, i < k → l[i]? = some x → ruleOk x = true) (hk : l.length ≤ k) : l.all ruleOk = true := by
  rw [List.all_eq_true]
  intro x hx
  obtain ⟨i, hi⟩ := List.mem_iff_getElem?.1 hx
  exact hs i x (by have := (List.getElem?_eq_some_iff.1 hi).1; omega) hi

set_option maxRecDepth 100000 in
set_option maxHeartbeats 4000000 in
theorem tableOk_any (l : List Rule) (a : Option Addr) (c : Nat) (R : Nat → Prop) (w : World) (hlen : l.length ≤ 1048576) (h : SliceAt (Flat Rule.cells) 3 R w a l) :
    Calls Try.prog 83 #[.agg #[.slice a l.length c]] w fun e w' => e = .returned (.bool (tableOk l)) ∧ Mod (fun _ => False) w w' := by
  refine calls_sx Try.func83 rfl rfl (fun a h1 h2 h3 => ((Fr.nil h1 h2).arg (h3 0 _ rfl))) ?_
  cases qn : inB (l.length : Int) 1 6
  · repeat (first | refine qan ?_ | refine qaj ?_ | refine qaf ?_ | refine qad ?_ | refine qaq rfl ?_ | (refine qau ?_; (refine qac (qaN rfl (fun w _ => in_any _ _ _ _)) rfl ?_ ?_ ?_); rfl; rfl) | (refine qaw ?_; (refine qac (qav 0 rfl rfl rfl) rfl ?_ ?_ ?_); rfl; rfl) | (refine qai ?_; (refine qac (qae rfl) rfl ?_ ?_ ?_); rfl; rfl) | (refine qam ?_; (refine qac (qah rfl) rfl ?_ ?_ ?_); rfl; rfl) | (refine l_len ?_; (refine qac (OpW.len rfl) rfl ?_ ?_ ?_); rfl; rfl) | (refine l_not ?_; (refine qac (OpW.not rfl) rfl ?_ ?_ ?_); rfl; rfl) | (refine l_box ?_; refine qaM ?_ ?_ rfl rfl (fun g => ?_); rfl; rfl) | (rw [qn]) | refine qaz ?_ | refine qax ?_)
    refine qaA rfl rfl (fun w' hl => ⟨ret_bool (by symm; simp [tableOk, qn]), hl.mod⟩)
  repeat (first | refine qan ?_ | refine qaj ?_ | refine qaf ?_ | refine qad ?_ | refine SX.block ?_ | refine qaC ?_ | refine qat rfl ?_ | (refine qau ?_; (refine qac (qaN rfl (fun w _ => in_any _ _ _ _)) rfl ?_ ?_ ?_); rfl; rfl) | (refine qaw ?_; (refine qac (qav 0 rfl rfl rfl) rfl ?_ ?_ ?_); rfl; rfl) | (refine qai ?_; (refine qac (qae rfl) rfl ?_ ?_ ?_); rfl; rfl) | (refine qap ?_; (refine qac (qak rfl) rfl ?_ ?_ ?_); rfl; rfl) | (refine qam ?_; (refine qac (qah rfl) rfl ?_ ?_ ?_); rfl; rfl) | (refine l_len ?_; (refine qac (OpW.len rfl) rfl ?_ ?_ ?_); rfl; rfl) | (refine l_not ?_; (refine qac (OpW.not rfl) rfl ?_ ?_ ?_); rfl; rfl) | (refine l_box ?_; refine qaM ?_ ?_ rfl rfl (fun g => ?_); rfl; rfl) | (rw [qn]))
  refine SX.loopi (fun k : Nat => k ≤ l.length ∧ ∀ i x, i < k → l[i]? = some x → ruleOk x = true) (fun k => l.length - k) (fun _ => [⟨g, [.slice a l.length c], 76⟩]) (fun _ => []) (fun _ => []) (fun k => [(11, .slice a l.length c), (12, .int .i64 l.length), (13, .int .i64 k)]) 0 ⟨Nat.zero_le _, fun i x h => absurd h (Nat.not_lt_zero _)⟩ ?_ (fun _ hl => hl) ?_
  · (repeat (first | exact subF_nil _ | (refine subF_cons rfl ?_) | (refine subF_consv rfl (by rfl) ?_)))
  · rintro k ⟨hk, hs⟩
    by_cases hlt : k < l.length
    · obtain ⟨b1, o1, x, r1, rfl, _, _, hxk, rfl, hl1, hc1⟩ := h.get hlt
      cases q0 : inB x.room (-1) 1048576
      · repeat (first | refine qan ?_ | refine qaj ?_ | refine qaf ?_ | refine qad ?_ | refine SX.block ?_ | refine qaC ?_ | refine qaq rfl ?_ | (refine qaS rfl rfl rfl ?_) | (refine qaw ?_; (first | refine qac (qaT rfl hc1 rfl (Nat.succ_pos _) (fun h => h)) rfl ?_ ?_ ?_ | refine qac (qav 0 rfl rfl rfl) rfl ?_ ?_ ?_); rfl; rfl) | (refine qau ?_; (refine qac (qaN rfl (fun w _ => in_any _ _ _ _)) rfl ?_ ?_ ?_); rfl; rfl) | (refine qai ?_; (refine qac (qae rfl) rfl ?_ ?_ ?_); rfl; rfl) | (refine qap ?_; (refine qac (qak rfl) rfl ?_ ?_ ?_); rfl; rfl) | (refine qam ?_; (refine qac (qah rfl) rfl ?_ ?_ ?_); rfl; rfl) | (refine l_lss ?_; (refine qac (OpW.lssT rfl rfl (by omega)) rfl ?_ ?_ ?_); rfl; rfl) | (refine l_not ?_; (refine qac (OpW.not rfl) rfl ?_ ?_ ?_); rfl; rfl) | (refine qaG ?_; (refine qac (qay rfl rfl rfl) rfl ?_ ?_ ?_); rfl; rfl) | (refine qaI ?_; (refine qac (qaF (by omega) rfl rfl) rfl ?_ ?_ ?_); rfl; rfl) | (refine qaH ?_; refine SXl.alloc ?_ ?_ (fun g => ?_); rfl; rfl) | (refine qas ?_; first | ((first | refine qaa 0 ?_ rfl rfl rfl rfl rfl rfl rfl ?_ | refine qaa 1 ?_ rfl rfl rfl rfl rfl rfl rfl ?_ | refine qaa 2 ?_ rfl rfl rfl rfl rfl rfl rfl ?_); rfl; simp only [List.set_cons_zero, List.set_cons_succ]) | ((first | refine qab 0 ?_ rfl rfl rfl rfl rfl rfl rfl ?_ | refine qab 1 ?_ rfl rfl rfl rfl rfl rfl rfl ?_ | refine qab 2 ?_ rfl rfl rfl rfl rfl rfl rfl ?_); rfl; simp only [over, List.set_cons_zero, List.set_cons_succ])) | (rw [q0]) | refine qaz ?_ | refine qax ?_ | refine qaD ?_)
        refine qaA rfl rfl (fun w' hl => ⟨ret_bool (by symm; exact tableOk_no hxk.out (by simp [ruleOk, q0])), hl.mod⟩)
      · cases q1 : inB x.wide 0 1048576
        · repeat (first | refine qan ?_ | refine qaj ?_ | refine qaf ?_ | refine qad ?_ | refine SX.block ?_ | refine qaC ?_ | refine qaq rfl ?_ | (refine qaS rfl rfl rfl ?_) | (refine qaw ?_; (first | refine qac (qaT rfl hc1 rfl (Nat.succ_pos _) (fun h => h)) rfl ?_ ?_ ?_ | refine qac (qav 0 rfl rfl rfl) rfl ?_ ?_ ?_); rfl; rfl) | (refine qau ?_; (refine qac (qaN rfl (fun w _ => in_any _ _ _ _)) rfl ?_ ?_ ?_); rfl; rfl) | (refine qai ?_; (refine qac (qae rfl) rfl ?_ ?_ ?_); rfl; rfl) | (refine qap ?_; (refine qac (qak rfl) rfl ?_ ?_ ?_); rfl; rfl) | (refine qam ?_; (refine qac (qah rfl) rfl ?_ ?_ ?_); rfl; rfl) | (refine l_lss ?_; (refine qac (OpW.lssT rfl rfl (by omega)) rfl ?_ ?_ ?_); rfl; rfl) | (refine l_not ?_; (refine qac (OpW.not rfl) rfl ?_ ?_ ?_); rfl; rfl) | (refine qaG ?_; (refine qac (qay rfl rfl rfl) rfl ?_ ?_ ?_); rfl; rfl) | (refine qaI ?_; (refine qac (qaF (by omega) rfl rfl) rfl ?_ ?_ ?_); rfl; rfl) | (refine qaH ?_; refine SXl.alloc ?_ ?_ (fun g => ?_); rfl; rfl) | (refine qas ?_; first | ((first | refine qaa 0 ?_ rfl rfl rfl rfl rfl rfl rfl ?_ | refine qaa 1 ?_ rfl rfl rfl rfl rfl rfl rfl ?_ | refine qaa 2 ?_ rfl rfl rfl rfl rfl rfl rfl ?_); rfl; simp only [List.set_cons_zero, List.set_cons_succ]) | ((first | refine qab 0 ?_ rfl rfl rfl rfl rfl rfl rfl ?_ | refine qab 1 ?_ rfl rfl rfl rfl rfl rfl rfl ?_ | refine qab 2 ?_ rfl rfl rfl rfl rfl rfl rfl ?_); rfl; simp only [over, List.set_cons_zero, List.set_cons_succ])) | ((first | rw [q0] | rw [q1])) | refine qaz ?_ | refine qax ?_ | refine qaD ?_)
          refine qaA rfl rfl (fun w' hl => ⟨ret_bool (by symm; exact tableOk_no hxk.out (by simp [ruleOk, q1])), hl.mod⟩)
        · cases q2 : inB x.high 0 1048576
          · repeat (first | refine qan ?_ | refine qaj ?_ | refine qaf ?_ | refine qad ?_ | refine SX.block ?_ | refine qaC ?_ | refine qaq rfl ?_ | (refine qaw ?_; (first | refine qac (qaT rfl hc1 rfl (Nat.succ_pos _) (fun h => h)) rfl ?_ ?_ ?_ | refine qac (qav 0 rfl rfl rfl) rfl ?_ ?_ ?_); rfl; rfl) | (refine qau ?_; (refine qac (qaN rfl (fun w _ => in_any _ _ _ _)) rfl ?_ ?_ ?_); rfl; rfl) | (refine qai ?_; (refine qac (qae rfl) rfl ?_ ?_ ?_); rfl; rfl) | (refine qap ?_; (refine qac (qak rfl) rfl ?_ ?_ ?_); rfl; rfl) | (refine qam ?_; (refine qac (qah rfl) rfl ?_ ?_ ?_); rfl; rfl) | (refine l_lss ?_; (refine qac (OpW.lssT rfl rfl (by omega)) rfl ?_ ?_ ?_); rfl; rfl) | (refine l_not ?_; (refine qac (OpW.not rfl) rfl ?_ ?_ ?_); rfl; rfl) | (refine qaG ?_; (refine qac (qay rfl rfl rfl) rfl ?_ ?_ ?_); rfl; rfl) | (refine qaI ?_; (refine qac (qaF (by omega) rfl rfl) rfl ?_ ?_ ?_); rfl; rfl) | (refine qaH ?_; refine SXl.alloc ?_ ?_ (fun g => ?_); rfl; rfl) | (refine qas ?_; first | ((first | refine qaa 0 ?_ rfl rfl rfl rfl rfl rfl rfl ?_ | refine qaa 1 ?_ rfl rfl rfl rfl rfl rfl rfl ?_ | refine qaa 2 ?_ rfl rfl rfl rfl rfl rfl rfl ?_); rfl; simp only [List.set_cons_zero, List.set_cons_succ]) | ((first | refine qab 0 ?_ rfl rfl rfl rfl rfl rfl rfl ?_ | refine qab 1 ?_ rfl rfl rfl rfl rfl rfl rfl ?_ | refine qab 2 ?_ rfl rfl rfl rfl rfl rfl rfl ?_); rfl; simp only [over, List.set_cons_zero, List.set_cons_succ])) | ((first | rw [q0] | rw [q1] | rw [q2])) | refine qaz ?_ | refine qax ?_ | refine qaD ?_)
            refine qaA rfl rfl (fun w' hl => ⟨ret_bool (by symm; exact tableOk_no hxk.out (by simp [ruleOk, q2])), hl.mod⟩)
          · repeat (first | refine qan ?_ | refine qaj ?_ | refine qaf ?_ | refine qad ?_ | refine SX.block ?_ | refine qaC ?_ | refine qaq rfl ?_ | refine qat rfl ?_ | (refine qaw ?_; (first | refine qac (qaT rfl hc1 rfl (Nat.succ_pos _) (fun h => h)) rfl ?_ ?_ ?_ | refine qac (qav 0 rfl rfl rfl) rfl ?_ ?_ ?_); rfl; rfl) | (refine qau ?_; (refine qac (qaN rfl (fun w _ => in_any _ _ _ _)) rfl ?_ ?_ ?_); rfl; rfl) | (refine qai ?_; (refine qac (qae rfl) rfl ?_ ?_ ?_); rfl; rfl) | (refine qap ?_; (refine qac (qak rfl) rfl ?_ ?_ ?_); rfl; rfl) | (refine l_add ?_; (refine qac (OpW.succ rfl rfl (by omega)) rfl ?_ ?_ ?_); rfl; rfl) | (refine l_lss ?_; (refine qac (OpW.lssT rfl rfl (by omega)) rfl ?_ ?_ ?_); rfl; rfl) | (refine l_not ?_; (refine qac (OpW.not rfl) rfl ?_ ?_ ?_); rfl; rfl) | (refine qaG ?_; (refine qac (qay rfl rfl rfl) rfl ?_ ?_ ?_); rfl; rfl) | (refine qaI ?_; (refine qac (qaF (by omega) rfl rfl) rfl ?_ ?_ ?_); rfl; rfl) | (refine qaH ?_; refine SXl.alloc ?_ ?_ (fun g => ?_); rfl; rfl) | (refine qas ?_; first | ((first | refine qaa 0 ?_ rfl rfl rfl rfl rfl rfl rfl ?_ | refine qaa 1 ?_ rfl rfl rfl rfl rfl rfl rfl ?_ | refine qaa 2 ?_ rfl rfl rfl rfl rfl rfl rfl ?_); rfl; simp only [List.set_cons_zero, List.set_cons_succ]) | ((first | refine qab 0 ?_ rfl rfl rfl rfl rfl rfl rfl ?_ | refine qab 1 ?_ rfl rfl rfl rfl rfl rfl rfl ?_ | refine qab 2 ?_ rfl rfl rfl rfl rfl rfl rfl ?_); rfl; simp only [over, List.set_cons_zero, List.set_cons_succ])) | ((first | rw [q0] | rw [q1] | rw [q2])) | refine qar ?_)
            refine SQ.roundi (k + 1) ⟨by omega, allTo_succ hs hxk.out (by simp [ruleOk, q0, q1, q2])⟩ (by omega) ?_ (fun _ hl => hl.drop1)
            (repeat (first | exact subF_nil _ | (refine subF_cons rfl ?_) | (refine subF_consv rfl (by rfl) ?_)))
    · repeat (first | refine qan ?_ | refine qaj ?_ | refine qaf ?_ | refine qad ?_ | refine qat rfl ?_ | (refine qam ?_; (refine qac (qah rfl) rfl ?_ ?_ ?_); rfl; rfl) | (refine l_lss ?_; (refine qac (OpW.lssF rfl rfl (by omega)) rfl ?_ ?_ ?_); rfl; rfl) | refine qaz ?_ | refine SX.exit ?_ | refine qaO ?_ | refine qaK ?_)
      refine qaA rfl rfl (fun w' hl => ⟨ret_bool (by symm; simp [tableOk, qn, all_of hs (by omega)]), hl.mod⟩)

set_option maxRecDepth 100000 in
set_option maxHeartbeats 4000000 in
theorem stableOk_any (l : List Rule) (a : Option Addr) (c : Nat) (R : Nat → Prop) (w : World) (hlen : l.length ≤ 1048576) (h : SliceAt (Flat Rule.cells) 3 R w a l) :
    Calls Try.prog 87 #[.agg #[.slice a l.length c]] w fun e w' => e = .returned (.bool (tableOk l)) ∧ Mod (fun _ => False) w w' := by
  refine calls_sx Try.func87 rfl rfl (fun a h1 h2 h3 => ((Fr.nil h1 h2).arg (h3 0 _ rfl))) ?_
  repeat (first | refine qan ?_ | refine qaj ?_ | refine qaf ?_ | refine qad ?_ | refine SX.block ?_ | (refine qam ?_; (refine qac (qah rfl) rfl ?_ ?_ ?_); rfl; rfl) | (refine l_box ?_; refine qaM ?_ ?_ rfl rfl (fun g => ?_); rfl; rfl))
  refine SX.loopi (fun k : Nat => k ≤ l.length ∧ ∀ i x, i < k → l[i]? = some x → ruleOk x = true) (fun k => l.length - k) (fun _ => [⟨g, [.slice a l.length c], 76⟩]) (fun _ => []) (fun _ => []) (fun k => [(1, .pointer (some ⟨g, 0, none⟩)), (3, .int .i64 k)]) 0 ⟨Nat.zero_le _, fun i x h => absurd h (Nat.not_lt_zero _)⟩ ?_ (fun _ hl => hl) ?_
  · (repeat (first | exact subF_nil _ | (refine subF_cons rfl ?_) | (refine subF_consv rfl (by rfl) ?_)))
  · rintro k ⟨hk, hs⟩
    by_cases hlt : k < l.length
    · obtain ⟨b1, o1, x, r1, rfl, _, _, hxk, rfl, hl1, hc1⟩ := h.get hlt
      cases q0 : inB x.room (-1) 1048576
      · repeat (first | refine qan ?_ | refine qaj ?_ | refine qaf ?_ | refine qad ?_ | refine SX.block ?_ | refine qaC ?_ | refine qaq rfl ?_ | (refine qaS rfl rfl rfl ?_) | (refine qaw ?_; (first | refine qac (qaT rfl hc1 rfl (Nat.succ_pos _) (fun h => h)) rfl ?_ ?_ ?_ | refine qac (qav 0 rfl rfl rfl) rfl ?_ ?_ ?_); rfl; rfl) | (refine qau ?_; (refine qac (qaN rfl (fun w _ => l01In_any _ _ _ _)) rfl ?_ ?_ ?_); rfl; rfl) | (refine qai ?_; (refine qac (qae rfl) rfl ?_ ?_ ?_); rfl; rfl) | (refine qap ?_; (refine qac (qak rfl) rfl ?_ ?_ ?_); rfl; rfl) | (refine qam ?_; (refine qac (qah rfl) rfl ?_ ?_ ?_); rfl; rfl) | (refine l_len ?_; (refine qac (OpW.len rfl) rfl ?_ ?_ ?_); rfl; rfl) | (refine l_lss ?_; (refine qac (OpW.lssT rfl rfl (by omega)) rfl ?_ ?_ ?_); rfl; rfl) | (refine l_not ?_; (refine qac (OpW.not rfl) rfl ?_ ?_ ?_); rfl; rfl) | (refine qaG ?_; (refine qac (qay rfl rfl rfl) rfl ?_ ?_ ?_); rfl; rfl) | (refine qaI ?_; (refine qac (qaF (by omega) rfl rfl) rfl ?_ ?_ ?_); rfl; rfl) | (refine qaH ?_; refine SXl.alloc ?_ ?_ (fun g => ?_); rfl; rfl) | (refine qas ?_; first | ((first | refine qaa 0 ?_ rfl rfl rfl rfl rfl rfl rfl ?_ | refine qaa 1 ?_ rfl rfl rfl rfl rfl rfl rfl ?_ | refine qaa 2 ?_ rfl rfl rfl rfl rfl rfl rfl ?_); rfl; simp only [List.set_cons_zero, List.set_cons_succ]) | ((first | refine qab 0 ?_ rfl rfl rfl rfl rfl rfl rfl ?_ | refine qab 1 ?_ rfl rfl rfl rfl rfl rfl rfl ?_ | refine qab 2 ?_ rfl rfl rfl rfl rfl rfl rfl ?_); rfl; simp only [over, List.set_cons_zero, List.set_cons_succ])) | (rw [q0]) | refine qaz ?_ | refine qax ?_ | refine qaD ?_)
        refine qaA rfl rfl (fun w' hl => ⟨ret_bool (by symm; exact tableOk_no hxk.out (by simp [ruleOk, q0])), hl.mod⟩)
      · cases q1 : inB x.wide 0 1048576
        · repeat (first | refine qan ?_ | refine qaj ?_ | refine qaf ?_ | refine qad ?_ | refine SX.block ?_ | refine qaC ?_ | refine qaq rfl ?_ | (refine qaS rfl rfl rfl ?_) | (refine qaw ?_; (first | refine qac (qaT rfl hc1 rfl (Nat.succ_pos _) (fun h => h)) rfl ?_ ?_ ?_ | refine qac (qav 0 rfl rfl rfl) rfl ?_ ?_ ?_); rfl; rfl) | (refine qau ?_; (refine qac (qaN rfl (fun w _ => l01In_any _ _ _ _)) rfl ?_ ?_ ?_); rfl; rfl) | (refine qai ?_; (refine qac (qae rfl) rfl ?_ ?_ ?_); rfl; rfl) | (refine qap ?_; (refine qac (qak rfl) rfl ?_ ?_ ?_); rfl; rfl) | (refine qam ?_; (refine qac (qah rfl) rfl ?_ ?_ ?_); rfl; rfl) | (refine l_len ?_; (refine qac (OpW.len rfl) rfl ?_ ?_ ?_); rfl; rfl) | (refine l_lss ?_; (refine qac (OpW.lssT rfl rfl (by omega)) rfl ?_ ?_ ?_); rfl; rfl) | (refine l_not ?_; (refine qac (OpW.not rfl) rfl ?_ ?_ ?_); rfl; rfl) | (refine qaG ?_; (refine qac (qay rfl rfl rfl) rfl ?_ ?_ ?_); rfl; rfl) | (refine qaI ?_; (refine qac (qaF (by omega) rfl rfl) rfl ?_ ?_ ?_); rfl; rfl) | (refine qaH ?_; refine SXl.alloc ?_ ?_ (fun g => ?_); rfl; rfl) | (refine qas ?_; first | ((first | refine qaa 0 ?_ rfl rfl rfl rfl rfl rfl rfl ?_ | refine qaa 1 ?_ rfl rfl rfl rfl rfl rfl rfl ?_ | refine qaa 2 ?_ rfl rfl rfl rfl rfl rfl rfl ?_); rfl; simp only [List.set_cons_zero, List.set_cons_succ]) | ((first | refine qab 0 ?_ rfl rfl rfl rfl rfl rfl rfl ?_ | refine qab 1 ?_ rfl rfl rfl rfl rfl rfl rfl ?_ | refine qab 2 ?_ rfl rfl rfl rfl rfl rfl rfl ?_); rfl; simp only [over, List.set_cons_zero, List.set_cons_succ])) | ((first | rw [q0] | rw [q1])) | refine qaz ?_ | refine qax ?_ | refine qaD ?_)
          refine qaA rfl rfl (fun w' hl => ⟨ret_bool (by symm; exact tableOk_no hxk.out (by simp [ruleOk, q1])), hl.mod⟩)
        · cases q2 : inB x.high 0 1048576
          · repeat (first | refine qan ?_ | refine qaj ?_ | refine qaf ?_ | refine qad ?_ | refine SX.block ?_ | refine qaC ?_ | refine qaq rfl ?_ | (refine qaw ?_; (first | refine qac (qaT rfl hc1 rfl (Nat.succ_pos _) (fun h => h)) rfl ?_ ?_ ?_ | refine qac (qav 0 rfl rfl rfl) rfl ?_ ?_ ?_); rfl; rfl) | (refine qau ?_; (refine qac (qaN rfl (fun w _ => l01In_any _ _ _ _)) rfl ?_ ?_ ?_); rfl; rfl) | (refine qai ?_; (refine qac (qae rfl) rfl ?_ ?_ ?_); rfl; rfl) | (refine qap ?_; (refine qac (qak rfl) rfl ?_ ?_ ?_); rfl; rfl) | (refine qam ?_; (refine qac (qah rfl) rfl ?_ ?_ ?_); rfl; rfl) | (refine l_len ?_; (refine qac (OpW.len rfl) rfl ?_ ?_ ?_); rfl; rfl) | (refine l_lss ?_; (refine qac (OpW.lssT rfl rfl (by omega)) rfl ?_ ?_ ?_); rfl; rfl) | (refine l_not ?_; (refine qac (OpW.not rfl) rfl ?_ ?_ ?_); rfl; rfl) | (refine qaG ?_; (refine qac (qay rfl rfl rfl) rfl ?_ ?_ ?_); rfl; rfl) | (refine qaI ?_; (refine qac (qaF (by omega) rfl rfl) rfl ?_ ?_ ?_); rfl; rfl) | (refine qaH ?_; refine SXl.alloc ?_ ?_ (fun g => ?_); rfl; rfl) | (refine qas ?_; first | ((first | refine qaa 0 ?_ rfl rfl rfl rfl rfl rfl rfl ?_ | refine qaa 1 ?_ rfl rfl rfl rfl rfl rfl rfl ?_ | refine qaa 2 ?_ rfl rfl rfl rfl rfl rfl rfl ?_); rfl; simp only [List.set_cons_zero, List.set_cons_succ]) | ((first | refine qab 0 ?_ rfl rfl rfl rfl rfl rfl rfl ?_ | refine qab 1 ?_ rfl rfl rfl rfl rfl rfl rfl ?_ | refine qab 2 ?_ rfl rfl rfl rfl rfl rfl rfl ?_); rfl; simp only [over, List.set_cons_zero, List.set_cons_succ])) | ((first | rw [q0] | rw [q1] | rw [q2])) | refine qaz ?_ | refine qax ?_ | refine qaD ?_)
            refine qaA rfl rfl (fun w' hl => ⟨ret_bool (by symm; exact tableOk_no hxk.out (by simp [ruleOk, q2])), hl.mod⟩)
          · repeat (first | refine qan ?_ | refine qaj ?_ | refine qaf ?_ | refine qad ?_ | refine SX.block ?_ | refine qaC ?_ | refine qaq rfl ?_ | refine qat rfl ?_ | (refine qaw ?_; (first | refine qac (qaT rfl hc1 rfl (Nat.succ_pos _) (fun h => h)) rfl ?_ ?_ ?_ | refine qac (qav 0 rfl rfl rfl) rfl ?_ ?_ ?_); rfl; rfl) | (refine qau ?_; (refine qac (qaN rfl (fun w _ => l01In_any _ _ _ _)) rfl ?_ ?_ ?_); rfl; rfl) | (refine qai ?_; (refine qac (qae rfl) rfl ?_ ?_ ?_); rfl; rfl) | (refine qap ?_; (refine qac (qak rfl) rfl ?_ ?_ ?_); rfl; rfl) | (refine qam ?_; (refine qac (qah rfl) rfl ?_ ?_ ?_); rfl; rfl) | (refine l_len ?_; (refine qac (OpW.len rfl) rfl ?_ ?_ ?_); rfl; rfl) | (refine l_add ?_; (refine qac (OpW.succ rfl rfl (by omega)) rfl ?_ ?_ ?_); rfl; rfl) | (refine l_lss ?_; (refine qac (OpW.lssT rfl rfl (by omega)) rfl ?_ ?_ ?_); rfl; rfl) | (refine l_not ?_; (refine qac (OpW.not rfl) rfl ?_ ?_ ?_); rfl; rfl) | (refine qaG ?_; (refine qac (qay rfl rfl rfl) rfl ?_ ?_ ?_); rfl; rfl) | (refine qaI ?_; (refine qac (qaF (by omega) rfl rfl) rfl ?_ ?_ ?_); rfl; rfl) | (refine qaH ?_; refine SXl.alloc ?_ ?_ (fun g => ?_); rfl; rfl) | (refine qas ?_; first | ((first | refine qaa 0 ?_ rfl rfl rfl rfl rfl rfl rfl ?_ | refine qaa 1 ?_ rfl rfl rfl rfl rfl rfl rfl ?_ | refine qaa 2 ?_ rfl rfl rfl rfl rfl rfl rfl ?_); rfl; simp only [List.set_cons_zero, List.set_cons_succ]) | ((first | refine qab 0 ?_ rfl rfl rfl rfl rfl rfl rfl ?_ | refine qab 1 ?_ rfl rfl rfl rfl rfl rfl rfl ?_ | refine qab 2 ?_ rfl rfl rfl rfl rfl rfl rfl ?_); rfl; simp only [over, List.set_cons_zero, List.set_cons_succ])) | ((first | rw [q0] | rw [q1] | rw [q2])) | refine qar ?_)
            refine SQ.roundi (k + 1) ⟨by omega, allTo_succ hs hxk.out (by simp [ruleOk, q0, q1, q2])⟩ (by omega) ?_ (fun _ hl => hl.drop1)
            (repeat (first | exact subF_nil _ | (refine subF_cons rfl ?_) | (refine subF_consv rfl (by rfl) ?_)))
    · repeat (first | refine qan ?_ | refine qaj ?_ | refine qaf ?_ | refine qad ?_ | refine qat rfl ?_ | (refine qau ?_; (refine qac (qaN rfl (fun w _ => l01In_any _ _ _ _)) rfl ?_ ?_ ?_); rfl; rfl) | (refine qaw ?_; (refine qac (qav 0 rfl rfl rfl) rfl ?_ ?_ ?_); rfl; rfl) | (refine qai ?_; (refine qac (qae rfl) rfl ?_ ?_ ?_); rfl; rfl) | (refine qap ?_; (refine qac (qak rfl) rfl ?_ ?_ ?_); rfl; rfl) | (refine qam ?_; (refine qac (qah rfl) rfl ?_ ?_ ?_); rfl; rfl) | (refine l_len ?_; (refine qac (OpW.len rfl) rfl ?_ ?_ ?_); rfl; rfl) | (refine l_lss ?_; (refine qac (OpW.lssF rfl rfl (by omega)) rfl ?_ ?_ ?_); rfl; rfl) | refine qaz ?_ | refine SX.exit ?_ | refine qaO ?_ | refine qaK ?_)
      refine qaA rfl rfl (fun w' hl => ⟨ret_bool (by symm; simp [tableOk, all_of hs (by omega)]), hl.mod⟩)

end Go.Proofs.Ythffgbhphjkdeaa
namespace Go.Proofs.Ythffgbhphjkdeaa
open Go.RowKit
set_option linter.unusedVariables false
set_option linter.unusedSimpArgs false

/-- How often n stands among the first k. -/
def hasTo (l : List Int) (n : Int) (k : Nat) : Nat := (l.take k).count n
theorem hasTo_succ {l : List Int} {n : Int} {k : Nat} {x : Int} (hx : l[k]? = some x) : hasTo l n (k + 1) = hasTo l n k + if x = n then 1 else 0 := by
  unfold hasTo
  rw [List.take_add_one, hx, List.count_append]
  simp [List.count_cons]
theorem hasTo_le (l : List Int) (n : Int) (k : Nat) : hasTo l n k ≤ k := Nat.le_trans List.count_le_length (by simp; omega)
theorem hasTo_all {l : List Int} {n : Int} {k : Nat} (h : l.length ≤ k) : hasTo l n k = l.count n := by
  unfold hasTo; rw [List.take_of_length_le h]

set_option maxRecDepth 100000 in
set_option maxHeartbeats 4000000 in
theorem shas_any (l : List Int) (n : Int) (a : Option Addr) (c : Nat) (R : Nat → Prop) (w : World) (hlen : l.length ≤ 1048576) (h : IntSlice R w a l) :
    Calls Try.prog 86 #[.slice a l.length c, .int .i64 n] w fun e w' => e = .returned (.int .i64 (l.count n : Nat)) ∧ Mod (fun _ => False) w w' := by
  refine calls_sx Try.func86 rfl rfl (fun a h1 h2 h3 => ((Fr.nil h1 h2).arg (h3 1 _ rfl)).arg (h3 0 _ rfl)) ?_
  repeat (first | refine qan ?_ | refine qaj ?_ | refine qaf ?_ | refine qad ?_ | refine SX.block ?_ | (refine qam ?_; (refine qac (qah rfl) rfl ?_ ?_ ?_); rfl; rfl))
  refine SX.loopi (fun k : Nat => k ≤ l.length) (fun k => l.length - k) (fun _ => []) (fun _ => []) (fun _ => []) (fun k => [(0, .slice a l.length c), (1, .int .i64 n), (5, .int .i64 (hasTo l n k : Nat)), (6, .int .i64 k)]) 0 (Nat.zero_le _) ?_ (fun _ hl => hl) ?_
  · (repeat (first | exact subF_nil _ | (refine subF_cons rfl ?_) | (refine subF_consv rfl (by rfl) ?_)))
  · intro k hk
    have hle := hasTo_le l n k
    by_cases hlt : k < l.length
    · obtain ⟨b1, o1, x, rfl, _, _, hxk, hc1⟩ := IntSlice.get h hlt
      have hs := hasTo_succ (n := n) hxk.out
      by_cases e : x = n
      · rw [if_pos e] at hs
        repeat (first | refine qan ?_ | refine qaj ?_ | refine qaf ?_ | refine qad ?_ | refine SX.block ?_ | refine qaC ?_ | refine qaq rfl ?_ | (refine qaw ?_; (refine qac (OpW.loadOld rfl (by assumption) (fun h => h)) rfl ?_ ?_ ?_); rfl; rfl) | (refine qap ?_; (refine qac (qak rfl) rfl ?_ ?_ ?_); rfl; rfl) | (refine qam ?_; (refine qac (qah rfl) rfl ?_ ?_ ?_); rfl; rfl) | (refine l_len ?_; (refine qac (OpW.len rfl) rfl ?_ ?_ ?_); rfl; rfl) | (refine l_add ?_; (refine qac (OpW.succ rfl rfl (by omega)) rfl ?_ ?_ ?_); rfl; rfl) | (refine l_eql ?_; (refine qac (qaQ rfl rfl (by omega)) rfl ?_ ?_ ?_); rfl; rfl) | (refine l_lss ?_; (refine qac (OpW.lssT rfl rfl (by omega)) rfl ?_ ?_ ?_); rfl; rfl) | (refine qaI ?_; (refine qac (OpW.indexAddr1 (by omega) rfl rfl) rfl ?_ ?_ ?_); rfl; rfl) | refine qar ?_)
        refine SQ.roundi (k + 1) (by omega) (by omega) ?_ (fun _ hl => hl)
        (repeat (first | exact subF_nil _ | (refine subF_cons rfl ?_) | (refine subF_consv rfl (by rw [hs]) ?_)))
      · rw [if_neg e] at hs
        repeat (first | refine qan ?_ | refine qaj ?_ | refine qaf ?_ | refine qad ?_ | refine SX.block ?_ | refine qaC ?_ | refine qaq rfl ?_ | refine qat rfl ?_ | (refine qaw ?_; (refine qac (OpW.loadOld rfl (by assumption) (fun h => h)) rfl ?_ ?_ ?_); rfl; rfl) | (refine qap ?_; (refine qac (qak rfl) rfl ?_ ?_ ?_); rfl; rfl) | (refine qam ?_; (refine qac (qah rfl) rfl ?_ ?_ ?_); rfl; rfl) | (refine l_len ?_; (refine qac (OpW.len rfl) rfl ?_ ?_ ?_); rfl; rfl) | (refine l_add ?_; (refine qac (OpW.succ rfl rfl (by omega)) rfl ?_ ?_ ?_); rfl; rfl) | (refine l_eql ?_; (refine qac (qaP rfl rfl (by omega)) rfl ?_ ?_ ?_); rfl; rfl) | (refine l_lss ?_; (refine qac (OpW.lssT rfl rfl (by omega)) rfl ?_ ?_ ?_); rfl; rfl) | (refine qaI ?_; (refine qac (OpW.indexAddr1 (by omega) rfl rfl) rfl ?_ ?_ ?_); rfl; rfl) | refine qar ?_)
        refine SQ.roundi (k + 1) (by omega) (by omega) ?_ (fun _ hl => hl)
        (repeat (first | exact subF_nil _ | (refine subF_cons rfl ?_) | (refine subF_consv rfl (by rw [hs]; rfl) ?_)))
    · have hs := hasTo_all (n := n) (show l.length ≤ k by omega)
      repeat (first | refine qan ?_ | refine qaj ?_ | refine qaf ?_ | refine qad ?_ | refine qat rfl ?_ | (refine qap ?_; (refine qac (qak rfl) rfl ?_ ?_ ?_); rfl; rfl) | (refine qam ?_; (refine qac (qah rfl) rfl ?_ ?_ ?_); rfl; rfl) | (refine l_len ?_; (refine qac (OpW.len rfl) rfl ?_ ?_ ?_); rfl; rfl) | (refine l_lss ?_; (refine qac (OpW.lssF rfl rfl (by omega)) rfl ?_ ?_ ?_); rfl; rfl) | refine qaz ?_ | refine SX.exit ?_ | refine qaO ?_ | refine qaK ?_)
      refine qaA rfl rfl (fun w' hl => ⟨by rw [hs], hl.mod⟩)

end Go.Proofs.Ythffgbhphjkdeaa
namespace Go.Proofs.Ythffgbhphjkdeaa
open Go.RowKit

def kidOk (l : List Node) (i : Nat) (y : Int) : Bool := inB y 1 l.length && decide (((l[(y - 1).toNat]?).getD default).up = ((i + 1 : Nat) : Int))
def upOk (l : List Node) (i : Nat) (x : Node) : Bool := decide (x.up = 0) || decide (((l[(x.up - 1).toNat]?).getD default).kids.count ((i + 1 : Nat) : Int) = 1)
def tabOk (x : Node) : Bool := if x.measured then tableOk x.rules && decide (x.kids.length = 0) else decide (x.rules.length = 0)
def nodeOk (l : List Node) (i : Nat) (x : Node) : Bool := styleOk x.style && inB (depthF l (l.length + 1) ((i + 1 : Nat) : Int) (0 : Nat)) 1 4 && x.kids.all (kidOk l i) && upOk l i x && tabOk x
def treeOk (l : List Node) : Bool := decide (l.length ≤ 12) && (List.range l.length).all fun i => nodeOk l i ((l[i]?).getD default)
theorem treeOk_iff {l : List Node} : treeOk l = true ↔ l.length ≤ 12 ∧ ∀ i x, l[i]? = some x → nodeOk l i x = true := by
  unfold treeOk
  rw [Bool.and_eq_true, decide_eq_true_eq, List.all_eq_true]
  refine and_congr_right fun _ => ⟨fun h i x hx => ?_, fun h i hi => ?_⟩
  · have := h i (List.mem_range.2 (List.getElem?_eq_some_iff.1 hx).1)
    rwa [hx] at this
  · have hlt := List.mem_range.1 hi
    exact h i _ (by rw [List.getElem?_eq_getElem hlt]; rfl)
theorem treeOk_no {l : List Node} {k : Nat} {x : Node} (hx : l[k]? = some x) (h : nodeOk l k x = false) : treeOk l = false := by
  rw [Bool.eq_false_iff]
  intro ht
  rw [(treeOk_iff.1 ht).2 k x hx] at h
  cases h
theorem treeOk_all {l : List Node} {k : Nat} (hn : l.length ≤ 12) (hs : ∀ i x, i < k → l[i]? = some x → nodeOk l i x = true) (hk : l.length ≤ k) : treeOk l = true :=
  treeOk_iff.2 ⟨hn, fun i x hx => hs i x (by have := (List.getElem?_eq_some_iff.1 hx).1; omega) hx⟩
theorem treeOk_long {l : List Node} (hn : ¬ l.length ≤ 12) : treeOk l = false := by simp [treeOk, hn]
theorem pto_succ {α : Type} {p : Nat → α → Prop} {l : List α} {k : Nat} {x : α} (hs : ∀ i x, i < k → l[i]? = some x → p i x) (hx : l[k]? = some x) (h : p k x) : ∀ i x, i < k + 1 → l[i]? = some x → p i x := fun j y hj hy => by
  by_cases e : j = k
  · subst e; rw [hx] at hy; rw [← Option.some.inj hy]; exact h
  · exact hs j y (by omega) hy
theorem all_ints {l : List Int} {p : Int → Bool} {k : Nat} (hs : ∀ i x, i < k → l[i]? = some x → p x = true) (hk : l.length ≤ k) : l.all p = true := by
  rw [List.all_eq_true]
  intro x hx
  obtain ⟨i, hi⟩ := List.mem_iff_getElem?.1 hx
  exact hs i x (by have := (List.getElem?_eq_some_iff.1 hi).1; omega) hi
theorem not_all {l : List Int} {p : Int → Bool} {k : Nat} {y : Int} (hy : l[k]? = some y) (h : p y = false) : l.all p = false := by
  rw [Bool.eq_false_iff]
  intro ha
  rw [List.all_eq_true] at ha
  rw [ha y (List.mem_of_getElem? hy)] at h
  cases h
/-- Where the depth is a depth, the node above is one or there is none. -/
theorem depth_up {l : List Node} {k : Nat} {x : Node} (hx : l[k]? = some x) (hq : inB (depthF l (l.length + 1) ((k + 1 : Nat) : Int) (0 : Nat)) 1 4 = true) (h0 : x.up ≠ 0) : ∃ ku : Nat, x.up = ((ku + 1 : Nat) : Int) ∧ ku < l.length := by
  have hlt := (List.getElem?_eq_some_iff.1 hx).1
  have e := depthF_up (l := l) (d := 0) (by omega) hx
  rw [Nat.sub_zero] at e
  have e0 : depthF l (l.length + 1) ((k + 1 : Nat) : Int) 0 = depthF l (l.length + 1 - (0 + 1)) x.up (0 + 1) := e
  by_cases hb : inB x.up 1 l.length = true
  · exact inB_node hb
  · have hb' : inB x.up 1 l.length = false := by simpa using hb
    have := depthF_out (l := l) (d := 0 + 1) (by omega) h0 hb'
    rw [e0, this] at hq
    simp [inB] at hq

section
variable {l : List Node} {i : Nat} {x : Node}
theorem nodeOk_s (h : styleOk x.style = false) : nodeOk l i x = false := by simp [nodeOk, h]
theorem nodeOk_d (h : inB (depthF l (l.length + 1) ((i + 1 : Nat) : Int) (0 : Nat)) 1 4 = false) : nodeOk l i x = false := by unfold nodeOk; rw [h]; simp
theorem nodeOk_k {j : Nat} {y : Int} (hy : x.kids[j]? = some y) (h : kidOk l i y = false) : nodeOk l i x = false := by unfold nodeOk; rw [not_all hy h]; simp
theorem nodeOk_u (h : upOk l i x = false) : nodeOk l i x = false := by simp [nodeOk, h]
theorem nodeOk_t (h : tabOk x = false) : nodeOk l i x = false := by simp [nodeOk, h]
theorem nodeOk_y (h1 : styleOk x.style = true) (h2 : inB (depthF l (l.length + 1) ((i + 1 : Nat) : Int) (0 : Nat)) 1 4 = true) (h3 : x.kids.all (kidOk l i) = true) (h4 : upOk l i x = true) (h5 : tabOk x = true) : nodeOk l i x = true := by unfold nodeOk; rw [h1, h2, h3, h4, h5]; rfl
theorem kidOk_at {ky : Nat} {z : Node} (h : inB ((ky + 1 : Nat) : Int) 1 l.length = true) (hz : l[ky]? = some z) : kidOk l i ((ky + 1 : Nat) : Int) = decide (z.up = ((i + 1 : Nat) : Int)) := by
  unfold kidOk
  rw [h, show (((ky + 1 : Nat) : Int) - 1).toNat = ky by omega, hz]; rfl
theorem upOk_at {ku : Nat} {z : Node} (h : x.up = ((ku + 1 : Nat) : Int)) (hz : l[ku]? = some z) : upOk l i x = decide (z.kids.count ((i + 1 : Nat) : Int) = 1) := by
  unfold upOk
  rw [h, decide_eq_false (by omega), show (((ku + 1 : Nat) : Int) - 1).toNat = ku by omega, hz]; rfl
end
instance : TFv Try.prog 86 1 1 := ⟨_, _, _, Try.underlying86, rfl, rfl, Try.underlying84, rfl⟩
theorem nodeRow_tab (up : Int) (k : Option Addr) (n c : Nat) (s : Style) (m : Bool) (t : Option Addr) (n' c' : Nat) : ((nodeRow up k n c s m t n' c').drop 63).take 1 = [.slice t n' c'] := rfl
theorem styleC_any (x : Style) (w : World) : Calls Try.prog 82 #[.agg x.cells.toArray] w fun e w' => e = .returned (.bool (styleOk x)) ∧ Mod (fun _ => False) w w' := styleOk_any x w
theorem sstyleC_any (x : Style) (w : World) : Calls Try.prog 84 #[.agg x.cells.toArray] w fun e w' => e = .returned (.bool (styleOk x)) ∧ Mod (fun _ => False) w w' := sstyleOk_any x w

end Go.Proofs.Ythffgbhphjkdeaa
namespace Go.Proofs.Ythffgbhphjkdeaa
open Go.RowKit
set_option linter.unusedVariables false
set_option linter.unusedSimpArgs false

set_option maxRecDepth 100000 in
set_option maxHeartbeats 16000000 in
theorem streeOk_any (l : List Node) (o : Bool) (a : Option Addr) (c : Nat) (R : Nat → Prop) (w : World) (hlen : l.length ≤ 1048576) (hfit : ∀ x ∈ l, x.fits 1048576) (h : NodeSlice o R w a l) :
    Calls Try.prog 23 #[.agg #[.slice a l.length c]] w fun e w' => e = .returned (.bool (treeOk l)) ∧ Mod (fun _ => False) w w' := by
  refine calls_sx Try.func23 rfl rfl (fun a h1 h2 h3 => ((Fr.nil h1 h2).arg (h3 0 _ rfl))) ?_
  by_cases hn : l.length ≤ 12
  rotate_left
  · repeat (first | refine qan ?_ | refine qaj ?_ | refine qaf ?_ | refine qad ?_ | refine qaq rfl ?_ | (refine qaw ?_; (refine qac (qav 0 rfl rfl rfl) rfl ?_ ?_ ?_); rfl; rfl) | (refine qai ?_; (refine qac (qae rfl) rfl ?_ ?_ ?_); rfl; rfl) | (refine qam ?_; (refine qac (qah rfl) rfl ?_ ?_ ?_); rfl; rfl) | (refine l_len ?_; (refine qac (OpW.len rfl) rfl ?_ ?_ ?_); rfl; rfl) | (refine l_gtr ?_; (refine qac (OpW.gtrT rfl rfl (by omega)) rfl ?_ ?_ ?_); rfl; rfl) | (refine l_box ?_; refine qaM ?_ ?_ rfl rfl (fun g => ?_); rfl; rfl) | refine qaz ?_ | refine qax ?_)
    refine qaA rfl rfl (fun w' hl => ⟨by rw [treeOk_long hn], hl.mod⟩)
  repeat (first | refine qan ?_ | refine qaj ?_ | refine qaf ?_ | refine qad ?_ | refine SX.block ?_ | refine qaC ?_ | refine qat rfl ?_ | (refine qaw ?_; (refine qac (qav 0 rfl rfl rfl) rfl ?_ ?_ ?_); rfl; rfl) | (refine qai ?_; (refine qac (qae rfl) rfl ?_ ?_ ?_); rfl; rfl) | (refine qam ?_; (refine qac (qah rfl) rfl ?_ ?_ ?_); rfl; rfl) | (refine l_len ?_; (refine qac (OpW.len rfl) rfl ?_ ?_ ?_); rfl; rfl) | (refine l_gtr ?_; (refine qac (OpW.gtrF rfl rfl (by omega)) rfl ?_ ?_ ?_); rfl; rfl) | (refine l_box ?_; refine qaM ?_ ?_ rfl rfl (fun g => ?_); rfl; rfl))
  revert g; intro gt
  refine SX.loopi (fun k : Nat => k ≤ l.length ∧ ∀ i x, i < k → l[i]? = some x → nodeOk l i x = true) (fun k => l.length - k) (fun _ => [⟨gt, [.slice a l.length c], 37⟩]) (fun _ => []) (fun _ => []) (fun k => [(1, .pointer (some ⟨gt, 0, none⟩)), (3, .int .i64 k)]) 0 ⟨Nat.zero_le _, fun i x h => absurd h (Nat.not_lt_zero _)⟩ ?_ (fun _ hl => hl) ?_
  · (repeat (first | exact subF_nil _ | (refine subF_cons rfl ?_) | (refine subF_consv rfl (by rfl) ?_)))
  rintro k ⟨hk, hs⟩
  by_cases hlt : k < l.length
  rotate_left
  · repeat (first | refine qan ?_ | refine qaj ?_ | refine qaf ?_ | refine qad ?_ | refine qat rfl ?_ | (refine qaw ?_; (refine qac (qav 0 rfl rfl rfl) rfl ?_ ?_ ?_); rfl; rfl) | (refine qai ?_; (refine qac (qae rfl) rfl ?_ ?_ ?_); rfl; rfl) | (refine qap ?_; (refine qac (qak rfl) rfl ?_ ?_ ?_); rfl; rfl) | (refine qam ?_; (refine qac (qah rfl) rfl ?_ ?_ ?_); rfl; rfl) | (refine l_len ?_; (refine qac (OpW.len rfl) rfl ?_ ?_ ?_); rfl; rfl) | (refine l_lss ?_; (refine qac (OpW.lssF rfl rfl (by omega)) rfl ?_ ?_ ?_); rfl; rfl) | refine qaz ?_ | refine SX.exit ?_ | refine qaO ?_ | refine qaK ?_)
    refine qaA rfl rfl (fun w' hl => ⟨by rw [treeOk_all hn hs (by omega)], hl.mod⟩)
  obtain ⟨b1, o1, ⟨up, kids, st, me, ru⟩, r1, rfl, hR1, hb1, hxk, hr1, hl1, hc1⟩ := h.get hlt
  obtain ⟨ka, kc, ra, rc, rfl, hk1, ht1, _⟩ := hr1
  replace hxk := hxk.out
  have hfx := hfit _ (List.mem_of_getElem? hxk)
  have hf1 : kids.length ≤ 1048576 := hfx.1
  have hf2 : ru.length ≤ 1048576 := hfx.2
  clear hfx
  simp only at hc1 hk1 ht1
  cases q1 : styleOk st
  · have hv := nodeOk_s (l := l) (i := k) (x := ⟨up, kids, st, me, ru⟩) q1
    repeat (first | refine qan ?_ | refine qaj ?_ | refine qaf ?_ | refine qad ?_ | refine SX.block ?_ | refine qaC ?_ | refine qaq rfl ?_ | (refine qaS rfl rfl rfl ?_) | (refine qaw ?_; (first | refine qac (qaT rfl hc1 (nodeRow_len _ _ _ _ _ _ _ _ _) (Nat.succ_pos _) (fun h => h)) rfl ?_ ?_ ?_ | refine qac (qaE (cells := nodeRow up ka kids.length kc st me ra ru.length rc) 0 rfl rfl rfl (nodeRow_style _ _ _ _ _ _ _ _ _)) rfl ?_ ?_ ?_ | refine qac (qav 0 rfl rfl rfl) rfl ?_ ?_ ?_ | refine qac (qal 1 rfl rfl rfl) rfl ?_ ?_ ?_); rfl; rfl) | (refine qau ?_; (refine qac (qao rfl (fun w hl => sstyleC_any _ _)) rfl ?_ ?_ ?_); rfl; rfl) | (refine qai ?_; (refine qac (qae rfl) rfl ?_ ?_ ?_); rfl; rfl) | (refine qap ?_; (refine qac (qak rfl) rfl ?_ ?_ ?_); rfl; rfl) | (refine qam ?_; (refine qac (qah rfl) rfl ?_ ?_ ?_); rfl; rfl) | (refine l_len ?_; (refine qac (OpW.len rfl) rfl ?_ ?_ ?_); rfl; rfl) | (refine l_lss ?_; (refine qac (OpW.lssT rfl rfl (by omega)) rfl ?_ ?_ ?_); rfl; rfl) | (refine l_not ?_; (refine qac (OpW.not rfl) rfl ?_ ?_ ?_); rfl; rfl) | (refine qaG ?_; (refine qac (qay rfl rfl rfl) rfl ?_ ?_ ?_); rfl; rfl) | (refine qaI ?_; (refine qac (qaF (by omega) rfl rfl) rfl ?_ ?_ ?_); rfl; rfl) | (refine qaH ?_; refine SXl.alloc ?_ ?_ (fun g => ?_); rfl; rfl) | (refine qas ?_; first | ((first | refine qaa 0 ?_ rfl rfl rfl rfl rfl rfl rfl ?_ | refine qaa 1 ?_ rfl rfl rfl rfl rfl rfl rfl ?_ | refine qaa 2 ?_ rfl rfl rfl rfl rfl rfl rfl ?_); rfl; simp only [List.set_cons_zero, List.set_cons_succ]) | ((first | refine qab 0 ?_ rfl rfl rfl rfl rfl rfl rfl ?_ | refine qab 1 ?_ rfl rfl rfl rfl rfl rfl rfl ?_ | refine qab 2 ?_ rfl rfl rfl rfl rfl rfl rfl ?_); rfl; simp only [over, List.set_cons_zero, List.set_cons_succ])) | (rw [q1]) | refine qaz ?_ | refine qax ?_ | refine qaD ?_)
    refine qaA rfl rfl (fun w' hl => ⟨by rw [treeOk_no hxk (hv)], hl.mod⟩)
  cases q2 : inB (depthF l (l.length + 1) ((k + 1 : Nat) : Int) (0 : Nat)) 1 4
  · have hv := nodeOk_d (x := ⟨up, kids, st, me, ru⟩) q2
    repeat (first | refine qan ?_ | refine qaj ?_ | refine qaf ?_ | refine qad ?_ | refine SX.block ?_ | refine qaC ?_ | refine qaq rfl ?_ | (refine qaS rfl rfl rfl ?_) | (refine qaw ?_; (first | refine qac (qaT rfl hc1 (nodeRow_len _ _ _ _ _ _ _ _ _) (Nat.succ_pos _) (fun h => h)) rfl ?_ ?_ ?_ | refine qac (qaE (cells := nodeRow up ka kids.length kc st me ra ru.length rc) 0 rfl rfl rfl (nodeRow_style _ _ _ _ _ _ _ _ _)) rfl ?_ ?_ ?_ | refine qac (qav 0 rfl rfl rfl) rfl ?_ ?_ ?_ | refine qac (qal 1 rfl rfl rfl) rfl ?_ ?_ ?_); rfl; rfl) | (refine qau ?_; (first | refine qac (qao rfl (fun w hl => sstyleC_any _ _)) rfl ?_ ?_ ?_ | refine qac (qao rfl (fun w hl => sdepthOf_any l _ o _ c R _ (by omega) (h.keep hl.mod))) rfl ?_ ?_ ?_ | refine qac (qaN rfl (fun w _ => l01In_any _ _ _ _)) rfl ?_ ?_ ?_); rfl; rfl) | (refine qai ?_; (refine qac (qae rfl) rfl ?_ ?_ ?_); rfl; rfl) | (refine qap ?_; (refine qac (qak rfl) rfl ?_ ?_ ?_); rfl; rfl) | (refine qam ?_; (refine qac (qah rfl) rfl ?_ ?_ ?_); rfl; rfl) | (refine l_len ?_; (refine qac (OpW.len rfl) rfl ?_ ?_ ?_); rfl; rfl) | (refine l_add ?_; (refine qac (OpW.succ rfl rfl (by omega)) rfl ?_ ?_ ?_); rfl; rfl) | (refine l_lss ?_; (refine qac (OpW.lssT rfl rfl (by omega)) rfl ?_ ?_ ?_); rfl; rfl) | (refine l_not ?_; (refine qac (OpW.not rfl) rfl ?_ ?_ ?_); rfl; rfl) | (refine qaG ?_; (refine qac (qay rfl rfl rfl) rfl ?_ ?_ ?_); rfl; rfl) | (refine qaI ?_; (refine qac (qaF (by omega) rfl rfl) rfl ?_ ?_ ?_); rfl; rfl) | (refine qaH ?_; refine SXl.alloc ?_ ?_ (fun g => ?_); rfl; rfl) | (refine qas ?_; first | ((first | refine qaa 0 ?_ rfl rfl rfl rfl rfl rfl rfl ?_ | refine qaa 1 ?_ rfl rfl rfl rfl rfl rfl rfl ?_ | refine qaa 2 ?_ rfl rfl rfl rfl rfl rfl rfl ?_); rfl; simp only [List.set_cons_zero, List.set_cons_succ]) | ((first | refine qab 0 ?_ rfl rfl rfl rfl rfl rfl rfl ?_ | refine qab 1 ?_ rfl rfl rfl rfl rfl rfl rfl ?_ | refine qab 2 ?_ rfl rfl rfl rfl rfl rfl rfl ?_); rfl; simp only [over, List.set_cons_zero, List.set_cons_succ])) | ((first | rw [q1] | rw [q2])) | refine qaz ?_ | refine qax ?_ | refine qaD ?_)
    refine qaA rfl rfl (fun w' hl => ⟨by rw [treeOk_no hxk (hv)], hl.mod⟩)
  by_cases u0 : up = 0
  · subst u0
    have hup : upOk l k ⟨0, kids, st, me, ru⟩ = true := rfl
    repeat (first | refine qan ?_ | refine qaj ?_ | refine qaf ?_ | refine qad ?_ | refine SX.block ?_ | refine qaC ?_ | refine qaq rfl ?_ | refine qat rfl ?_ | (refine qaS rfl rfl rfl ?_) | (refine qaw ?_; (first | refine qac (qaT rfl hc1 (nodeRow_len _ _ _ _ _ _ _ _ _) (Nat.succ_pos _) (fun h => h)) rfl ?_ ?_ ?_ | refine qac (qav 0 rfl rfl rfl) rfl ?_ ?_ ?_ | refine qac (qal 1 rfl rfl rfl) rfl ?_ ?_ ?_ | refine qac (qaE 0 rfl rfl rfl rfl) rfl ?_ ?_ ?_); rfl; rfl) | (refine qau ?_; (first | refine qac (qao rfl (fun w hl => sstyleC_any _ _)) rfl ?_ ?_ ?_ | refine qac (qao rfl (fun w hl => sdepthOf_any l _ o _ c R _ (by omega) (h.keep hl.mod))) rfl ?_ ?_ ?_ | refine qac (qaN rfl (fun w _ => l01In_any _ _ _ _)) rfl ?_ ?_ ?_); rfl; rfl) | (refine qai ?_; (refine qac (qae rfl) rfl ?_ ?_ ?_); rfl; rfl) | (refine qap ?_; (refine qac (qak rfl) rfl ?_ ?_ ?_); rfl; rfl) | (refine qam ?_; (refine qac (qah rfl) rfl ?_ ?_ ?_); rfl; rfl) | (refine l_len ?_; (refine qac (OpW.len rfl) rfl ?_ ?_ ?_); rfl; rfl) | (refine l_add ?_; (refine qac (OpW.succ rfl rfl (by omega)) rfl ?_ ?_ ?_); rfl; rfl) | (refine l_lss ?_; (refine qac (OpW.lssT rfl rfl (by omega)) rfl ?_ ?_ ?_); rfl; rfl) | (refine l_neq ?_; (refine qac (OpW.neqF rfl rfl (by omega)) rfl ?_ ?_ ?_); rfl; rfl) | (refine l_not ?_; (refine qac (OpW.not rfl) rfl ?_ ?_ ?_); rfl; rfl) | (refine qaG ?_; (refine qac (qay rfl rfl rfl) rfl ?_ ?_ ?_); rfl; rfl) | (refine qaI ?_; (refine qac (qaF (by omega) rfl rfl) rfl ?_ ?_ ?_); rfl; rfl) | (refine qaH ?_; refine SXl.alloc ?_ ?_ (fun g => ?_); rfl; rfl) | (refine qas ?_; first | ((first | refine qaa 0 ?_ rfl rfl rfl rfl rfl rfl rfl ?_ | refine qaa 1 ?_ rfl rfl rfl rfl rfl rfl rfl ?_ | refine qaa 2 ?_ rfl rfl rfl rfl rfl rfl rfl ?_); rfl; simp only [List.set_cons_zero, List.set_cons_succ]) | ((first | refine qab 0 ?_ rfl rfl rfl rfl rfl rfl rfl ?_ | refine qab 1 ?_ rfl rfl rfl rfl rfl rfl rfl ?_ | refine qab 2 ?_ rfl rfl rfl rfl rfl rfl rfl ?_); rfl; simp only [over, List.set_cons_zero, List.set_cons_succ])) | ((first | rw [q1] | rw [q2])))
    refine SX.loopi (fun j : Nat => j ≤ kids.length ∧ ∀ i y, i < j → kids[i]? = some y → kidOk l k y = true) (fun j => kids.length - j) (fun _ => [⟨g, nodeRow 0 ka kids.length kc st me ra ru.length rc, 86⟩, ⟨gt, [.slice (some ⟨b1, o1, none⟩) l.length c], 37⟩]) (fun _ => []) (fun _ => []) (fun j => [(1, .pointer (some ⟨gt, 0, none⟩)), (4, .pointer (some ⟨g, 0, none⟩)), (3, .int .i64 k), (5, .int .i64 j)]) 0 ⟨Nat.zero_le _, fun i x h => absurd h (Nat.not_lt_zero _)⟩ ?_ (fun _ hl => hl) ?_
    · (repeat (first | exact subF_nil _ | (refine subF_cons rfl ?_) | (refine subF_consv rfl (by rfl) ?_)))
    rintro j ⟨hj, hks⟩
    by_cases hjl : j < kids.length
    · obtain ⟨b3, o3, y, e3, hR3, hb3, hyk, hc3⟩ := IntSlice.get hk1 hjl
      subst e3
      replace hyk := hyk.out
      cases p1 : inB y 1 l.length
      · have hv := nodeOk_k (l := l) (i := k) (x := ⟨0, kids, st, me, ru⟩) hyk (by simp [kidOk, p1])
        repeat (first | refine qan ?_ | refine qaj ?_ | refine qaf ?_ | refine qad ?_ | refine SX.block ?_ | refine qaC ?_ | refine qaq rfl ?_ | (refine qaw ?_; (refine qac (qav 0 rfl rfl rfl) rfl ?_ ?_ ?_); rfl; rfl) | (refine qai ?_; (refine qac (qae rfl) rfl ?_ ?_ ?_); rfl; rfl) | (refine qap ?_; (refine qac (qak rfl) rfl ?_ ?_ ?_); rfl; rfl) | (refine qam ?_; (refine qac (qah rfl) rfl ?_ ?_ ?_); rfl; rfl) | (refine l_len ?_; (refine qac (OpW.len rfl) rfl ?_ ?_ ?_); rfl; rfl) | (refine l_lss ?_; (refine qac (OpW.lssT rfl rfl (by omega)) rfl ?_ ?_ ?_); rfl; rfl) | refine SX.drawn (by kernel_rfl) (by kernel_rfl) ?_ | refine SXr.nil ?_ | (refine SXr.no rfl rfl rfl ?_) | (refine r_call ?_; (refine SXr.v (qao rfl (fun w hl => sisNode_any _ _ _ _ _)) rfl ?_ ?_ ?_); rfl; rfl) | (refine r_load ?_; (first | refine SXr.v (qav 0 rfl rfl rfl) rfl ?_ ?_ ?_ | refine SXr.v (OpW.loadOld rfl (by assumption) (fun h => h)) rfl ?_ ?_ ?_ | refine SXr.v (qal 1 rfl rfl rfl) rfl ?_ ?_ ?_); rfl; rfl) | (refine r_fieldAddr ?_; (refine SXr.v (qae rfl) rfl ?_ ?_ ?_); rfl; rfl) | (refine r_move ?_; (refine SXr.v (qak rfl) rfl ?_ ?_ ?_); rfl; rfl) | (refine r_not ?_; (refine SXr.v (OpW.not rfl) rfl ?_ ?_ ?_); rfl; rfl) | (refine r_pick ?_; (refine SXr.v (qay rfl rfl rfl) rfl ?_ ?_ ?_); rfl; rfl) | (refine r_indexAddr ?_; (refine SXr.v (OpW.indexAddr1 (by omega) rfl rfl) rfl ?_ ?_ ?_); rfl; rfl) | (rw [p1]) | refine qaz ?_ | refine qax ?_ | refine qaD ?_)
        refine qaA rfl rfl (fun w' hl => ⟨by rw [treeOk_no hxk (hv)], hl.mod⟩)
      obtain ⟨ky, rfl, hky⟩ := inB_node p1
      obtain ⟨b2, o2, z, r2, e2, hR2, hb2, hzk, hr2, hl2, hc2⟩ := h.get hky
      obtain ⟨rfl, rfl⟩ : b1 = b2 ∧ o1 = o2 := by simpa using e2
      obtain ⟨kb, kd, rb, rd, rfl, _, _, _⟩ := hr2
      have hkid : kidOk l k ((ky + 1 : Nat) : Int) = decide (z.up = ((k + 1 : Nat) : Int)) := kidOk_at p1 hzk.out
      by_cases p2 : z.up = ((k + 1 : Nat) : Int)
      · repeat (first | refine qan ?_ | refine qaj ?_ | refine qaf ?_ | refine qad ?_ | refine SX.block ?_ | refine qaC ?_ | refine qaq rfl ?_ | refine qat rfl ?_ | (refine qaw ?_; (refine qac (qav 0 rfl rfl rfl) rfl ?_ ?_ ?_); rfl; rfl) | (refine qai ?_; (refine qac (qae rfl) rfl ?_ ?_ ?_); rfl; rfl) | (refine qap ?_; (refine qac (qak rfl) rfl ?_ ?_ ?_); rfl; rfl) | (refine qam ?_; (refine qac (qah rfl) rfl ?_ ?_ ?_); rfl; rfl) | (refine l_len ?_; (refine qac (OpW.len rfl) rfl ?_ ?_ ?_); rfl; rfl) | (refine l_add ?_; (refine qac (OpW.succ rfl rfl (by omega)) rfl ?_ ?_ ?_); rfl; rfl) | (refine l_lss ?_; (refine qac (OpW.lssT rfl rfl (by omega)) rfl ?_ ?_ ?_); rfl; rfl) | refine SX.drawn (by kernel_rfl) (by kernel_rfl) ?_ | refine SXr.nil ?_ | (refine r_call ?_; (first | refine SXr.v (qao rfl (fun w hl => sisNode_any _ _ _ _ _)) rfl ?_ ?_ ?_ | refine SXr.v (qao rfl (fun w hl => snode_any _ _ _ _ ky _ _ _ _ _ _ _ _ _ w (by omega) hky (fun j v hv => hl.old (hc2 j v hv) (fun h => h)))) rfl ?_ ?_ ?_); rfl; rfl) | (refine r_field ?_; (refine SXr.v (OpW.field rfl (nodeRow_a0 _ _ _ _ _ _ _ _ _)) rfl ?_ ?_ ?_); rfl; rfl) | (refine r_load ?_; (first | refine SXr.v (qav 0 rfl rfl rfl) rfl ?_ ?_ ?_ | refine SXr.v (OpW.loadOld rfl (by assumption) (fun h => h)) rfl ?_ ?_ ?_ | refine SXr.v (qal 1 rfl rfl rfl) rfl ?_ ?_ ?_); rfl; rfl) | (refine r_fieldAddr ?_; (refine SXr.v (qae rfl) rfl ?_ ?_ ?_); rfl; rfl) | (refine r_move ?_; (refine SXr.v (qak rfl) rfl ?_ ?_ ?_); rfl; rfl) | (refine r_add ?_; (refine SXr.v (OpW.succ rfl rfl (by omega)) rfl ?_ ?_ ?_); rfl; rfl) | (refine r_neq ?_; (refine SXr.v (OpW.neqF rfl rfl (by omega)) rfl ?_ ?_ ?_); rfl; rfl) | (refine r_not ?_; (refine SXr.v (OpW.not rfl) rfl ?_ ?_ ?_); rfl; rfl) | (refine r_pick ?_; (refine SXr.v (qay rfl rfl rfl) rfl ?_ ?_ ?_); rfl; rfl) | (refine r_indexAddr ?_; (refine SXr.v (OpW.indexAddr1 (by omega) rfl rfl) rfl ?_ ?_ ?_); rfl; rfl) | (rw [p1]) | refine qar ?_)
        refine SQ.roundi (j + 1) ⟨by omega, pto_succ hks hyk (by rw [hkid]; exact decide_eq_true p2)⟩ (by omega) ?_ (fun _ hl => hl)
        (repeat (first | exact subF_nil _ | (refine subF_cons rfl ?_) | (refine subF_consv rfl (by rfl) ?_)))
      · have hv := nodeOk_k (l := l) (i := k) (x := ⟨0, kids, st, me, ru⟩) hyk (by rw [hkid]; exact decide_eq_false p2)
        repeat (first | refine qan ?_ | refine qaj ?_ | refine qaf ?_ | refine qad ?_ | refine SX.block ?_ | refine qaC ?_ | refine qaq rfl ?_ | (refine qaw ?_; (refine qac (qav 0 rfl rfl rfl) rfl ?_ ?_ ?_); rfl; rfl) | (refine qai ?_; (refine qac (qae rfl) rfl ?_ ?_ ?_); rfl; rfl) | (refine qap ?_; (refine qac (qak rfl) rfl ?_ ?_ ?_); rfl; rfl) | (refine qam ?_; (refine qac (qah rfl) rfl ?_ ?_ ?_); rfl; rfl) | (refine l_len ?_; (refine qac (OpW.len rfl) rfl ?_ ?_ ?_); rfl; rfl) | (refine l_lss ?_; (refine qac (OpW.lssT rfl rfl (by omega)) rfl ?_ ?_ ?_); rfl; rfl) | refine SX.drawn (by kernel_rfl) (by kernel_rfl) ?_ | refine SXr.nil ?_ | (refine r_call ?_; (first | refine SXr.v (qao rfl (fun w hl => sisNode_any _ _ _ _ _)) rfl ?_ ?_ ?_ | refine SXr.v (qao rfl (fun w hl => snode_any _ _ _ _ ky _ _ _ _ _ _ _ _ _ w (by omega) hky (fun j v hv => hl.old (hc2 j v hv) (fun h => h)))) rfl ?_ ?_ ?_); rfl; rfl) | (refine r_field ?_; (refine SXr.v (OpW.field rfl (nodeRow_a0 _ _ _ _ _ _ _ _ _)) rfl ?_ ?_ ?_); rfl; rfl) | (refine r_load ?_; (first | refine SXr.v (qav 0 rfl rfl rfl) rfl ?_ ?_ ?_ | refine SXr.v (OpW.loadOld rfl (by assumption) (fun h => h)) rfl ?_ ?_ ?_ | refine SXr.v (qal 1 rfl rfl rfl) rfl ?_ ?_ ?_); rfl; rfl) | (refine r_fieldAddr ?_; (refine SXr.v (qae rfl) rfl ?_ ?_ ?_); rfl; rfl) | (refine r_move ?_; (refine SXr.v (qak rfl) rfl ?_ ?_ ?_); rfl; rfl) | (refine r_add ?_; (refine SXr.v (OpW.succ rfl rfl (by omega)) rfl ?_ ?_ ?_); rfl; rfl) | (refine r_neq ?_; (refine SXr.v (OpW.neqT rfl rfl (by omega)) rfl ?_ ?_ ?_); rfl; rfl) | (refine r_not ?_; (refine SXr.v (OpW.not rfl) rfl ?_ ?_ ?_); rfl; rfl) | (refine r_pick ?_; (refine SXr.v (qay rfl rfl rfl) rfl ?_ ?_ ?_); rfl; rfl) | (refine r_indexAddr ?_; (refine SXr.v (OpW.indexAddr1 (by omega) rfl rfl) rfl ?_ ?_ ?_); rfl; rfl) | (rw [p1]) | refine qaz ?_ | refine qax ?_ | refine qaD ?_)
        refine qaA rfl rfl (fun w' hl => ⟨by rw [treeOk_no hxk (hv)], hl.mod⟩)
    have hka := all_ints (p := kidOk l k) hks (by omega)
    cases me
    · by_cases r0 : ru.length = 0
      · repeat (first | refine qan ?_ | refine qaj ?_ | refine qaf ?_ | refine qad ?_ | refine qaC ?_ | refine qat rfl ?_ | (refine qaS rfl rfl rfl ?_) | (refine qaw ?_; (refine qac (qav 0 rfl rfl rfl) rfl ?_ ?_ ?_); rfl; rfl) | (refine qai ?_; (refine qac (qae rfl) rfl ?_ ?_ ?_); rfl; rfl) | (refine qap ?_; (refine qac (qak rfl) rfl ?_ ?_ ?_); rfl; rfl) | (refine qam ?_; (refine qac (qah rfl) rfl ?_ ?_ ?_); rfl; rfl) | (refine l_len ?_; (refine qac (OpW.len rfl) rfl ?_ ?_ ?_); rfl; rfl) | (refine l_add ?_; (refine qac (OpW.succ rfl rfl (by omega)) rfl ?_ ?_ ?_); rfl; rfl) | (refine l_gtr ?_; (refine qac (OpW.gtrF rfl rfl (by omega)) rfl ?_ ?_ ?_); rfl; rfl) | (refine l_lss ?_; (refine qac (OpW.lssF rfl rfl (by omega)) rfl ?_ ?_ ?_); rfl; rfl) | (refine l_not ?_; (refine qac (OpW.not rfl) rfl ?_ ?_ ?_); rfl; rfl) | (refine qaG ?_; (refine qac (qay rfl rfl rfl) rfl ?_ ?_ ?_); rfl; rfl) | refine SX.exit ?_ | refine qaO ?_ | refine qar ?_ | refine qaK ?_)
        refine SQ.roundi (k + 1) ⟨by omega, pto_succ hs hxk (nodeOk_y q1 q2 hka hup (by simp [tabOk, r0]))⟩ (by omega) ?_ (fun _ hl => hl.drop1)
        (repeat (first | exact subF_nil _ | (refine subF_cons rfl ?_) | (refine subF_consv rfl (by rfl) ?_)))
      · have hv := nodeOk_t (l := l) (i := k) (x := ⟨0, kids, st, false, ru⟩) (by simp [tabOk]; intro e; exact r0 (by rw [e]; rfl))
        repeat (first | refine qan ?_ | refine qaj ?_ | refine qaf ?_ | refine qad ?_ | refine qaq rfl ?_ | refine qat rfl ?_ | (refine qaS rfl rfl rfl ?_) | (refine qaw ?_; (refine qac (qav 0 rfl rfl rfl) rfl ?_ ?_ ?_); rfl; rfl) | (refine qai ?_; (refine qac (qae rfl) rfl ?_ ?_ ?_); rfl; rfl) | (refine qap ?_; (refine qac (qak rfl) rfl ?_ ?_ ?_); rfl; rfl) | (refine qam ?_; (refine qac (qah rfl) rfl ?_ ?_ ?_); rfl; rfl) | (refine l_len ?_; (refine qac (OpW.len rfl) rfl ?_ ?_ ?_); rfl; rfl) | (refine l_gtr ?_; (refine qac (OpW.gtrT rfl rfl (by omega)) rfl ?_ ?_ ?_); rfl; rfl) | (refine l_lss ?_; (refine qac (OpW.lssF rfl rfl (by omega)) rfl ?_ ?_ ?_); rfl; rfl) | (refine l_not ?_; (refine qac (OpW.not rfl) rfl ?_ ?_ ?_); rfl; rfl) | (refine qaG ?_; (refine qac (qay rfl rfl rfl) rfl ?_ ?_ ?_); rfl; rfl) | refine qaz ?_ | refine SX.exit ?_ | refine qax ?_ | refine qaO ?_ | refine qaD ?_ | refine qaK ?_)
        refine qaA rfl rfl (fun w' hl => ⟨by rw [treeOk_no hxk (hv)], hl.mod⟩)
    · cases tq : tableOk ru
      · have hv := nodeOk_t (l := l) (i := k) (x := ⟨0, kids, st, true, ru⟩) (by simp [tabOk, tq])
        repeat (first | refine qan ?_ | refine qaj ?_ | refine qaf ?_ | refine qad ?_ | refine qaq rfl ?_ | refine qat rfl ?_ | (refine qaS rfl rfl rfl ?_) | (refine qaw ?_; (first | refine qac (qaE (cells := nodeRow _ _ _ _ _ _ _ _ _) 0 rfl rfl rfl (nodeRow_tab _ _ _ _ _ _ _ _ _)) rfl ?_ ?_ ?_ | refine qac (qav 0 rfl rfl rfl) rfl ?_ ?_ ?_); rfl; rfl) | (refine qau ?_; (refine qac (qao rfl (fun w hl => stableOk_any ru ra rc R _ hf2 (ht1.flatKeep hl.mod))) rfl ?_ ?_ ?_); rfl; rfl) | (refine qai ?_; (refine qac (qae rfl) rfl ?_ ?_ ?_); rfl; rfl) | (refine qap ?_; (refine qac (qak rfl) rfl ?_ ?_ ?_); rfl; rfl) | (refine qam ?_; (refine qac (qah rfl) rfl ?_ ?_ ?_); rfl; rfl) | (refine l_len ?_; (refine qac (OpW.len rfl) rfl ?_ ?_ ?_); rfl; rfl) | (refine l_lss ?_; (refine qac (OpW.lssF rfl rfl (by omega)) rfl ?_ ?_ ?_); rfl; rfl) | (refine l_not ?_; (refine qac (OpW.not rfl) rfl ?_ ?_ ?_); rfl; rfl) | (refine qaG ?_; (refine qac (qay rfl rfl rfl) rfl ?_ ?_ ?_); rfl; rfl) | (rw [tq]) | refine qaz ?_ | refine SX.exit ?_ | refine qax ?_ | refine qaO ?_ | refine qaD ?_ | refine qaK ?_)
        refine qaA rfl rfl (fun w' hl => ⟨by rw [treeOk_no hxk (hv)], hl.mod⟩)
      by_cases k0 : kids.length = 0
      · repeat (first | refine qan ?_ | refine qaj ?_ | refine qaf ?_ | refine qad ?_ | refine qaC ?_ | refine qat rfl ?_ | (refine qaS rfl rfl rfl ?_) | (refine qaw ?_; (first | refine qac (qaE (cells := nodeRow _ _ _ _ _ _ _ _ _) 0 rfl rfl rfl (nodeRow_tab _ _ _ _ _ _ _ _ _)) rfl ?_ ?_ ?_ | refine qac (qav 0 rfl rfl rfl) rfl ?_ ?_ ?_); rfl; rfl) | (refine qau ?_; (refine qac (qao rfl (fun w hl => stableOk_any ru ra rc R _ hf2 (ht1.flatKeep hl.mod))) rfl ?_ ?_ ?_); rfl; rfl) | (refine qai ?_; (refine qac (qae rfl) rfl ?_ ?_ ?_); rfl; rfl) | (refine qap ?_; (refine qac (qak rfl) rfl ?_ ?_ ?_); rfl; rfl) | (refine qam ?_; (refine qac (qah rfl) rfl ?_ ?_ ?_); rfl; rfl) | (refine l_len ?_; (refine qac (OpW.len rfl) rfl ?_ ?_ ?_); rfl; rfl) | (refine l_add ?_; (refine qac (OpW.succ rfl rfl (by omega)) rfl ?_ ?_ ?_); rfl; rfl) | (refine l_gtr ?_; (refine qac (OpW.gtrF rfl rfl (by omega)) rfl ?_ ?_ ?_); rfl; rfl) | (refine l_lss ?_; (refine qac (OpW.lssF rfl rfl (by omega)) rfl ?_ ?_ ?_); rfl; rfl) | (refine l_not ?_; (refine qac (OpW.not rfl) rfl ?_ ?_ ?_); rfl; rfl) | (refine qaG ?_; (refine qac (qay rfl rfl rfl) rfl ?_ ?_ ?_); rfl; rfl) | (rw [tq]) | refine SX.exit ?_ | refine qaO ?_ | refine qar ?_ | refine qaK ?_)
        refine SQ.roundi (k + 1) ⟨by omega, pto_succ hs hxk (nodeOk_y q1 q2 hka hup (by simp [tabOk, tq, k0]))⟩ (by omega) ?_ (fun _ hl => hl.drop1)
        (repeat (first | exact subF_nil _ | (refine subF_cons rfl ?_) | (refine subF_consv rfl (by rfl) ?_)))
      · have hv := nodeOk_t (l := l) (i := k) (x := ⟨0, kids, st, true, ru⟩) (by simp [tabOk, tq]; intro e; exact k0 (by rw [e]; rfl))
        repeat (first | refine qan ?_ | refine qaj ?_ | refine qaf ?_ | refine qad ?_ | refine qaq rfl ?_ | refine qat rfl ?_ | (refine qaS rfl rfl rfl ?_) | (refine qaw ?_; (first | refine qac (qaE (cells := nodeRow _ _ _ _ _ _ _ _ _) 0 rfl rfl rfl (nodeRow_tab _ _ _ _ _ _ _ _ _)) rfl ?_ ?_ ?_ | refine qac (qav 0 rfl rfl rfl) rfl ?_ ?_ ?_); rfl; rfl) | (refine qau ?_; (refine qac (qao rfl (fun w hl => stableOk_any ru ra rc R _ hf2 (ht1.flatKeep hl.mod))) rfl ?_ ?_ ?_); rfl; rfl) | (refine qai ?_; (refine qac (qae rfl) rfl ?_ ?_ ?_); rfl; rfl) | (refine qap ?_; (refine qac (qak rfl) rfl ?_ ?_ ?_); rfl; rfl) | (refine qam ?_; (refine qac (qah rfl) rfl ?_ ?_ ?_); rfl; rfl) | (refine l_len ?_; (refine qac (OpW.len rfl) rfl ?_ ?_ ?_); rfl; rfl) | (refine l_gtr ?_; (refine qac (OpW.gtrT rfl rfl (by omega)) rfl ?_ ?_ ?_); rfl; rfl) | (refine l_lss ?_; (refine qac (OpW.lssF rfl rfl (by omega)) rfl ?_ ?_ ?_); rfl; rfl) | (refine l_not ?_; (refine qac (OpW.not rfl) rfl ?_ ?_ ?_); rfl; rfl) | (refine qaG ?_; (refine qac (qay rfl rfl rfl) rfl ?_ ?_ ?_); rfl; rfl) | (rw [tq]) | refine qaz ?_ | refine SX.exit ?_ | refine qax ?_ | refine qaO ?_ | refine qaD ?_ | refine qaK ?_)
        refine qaA rfl rfl (fun w' hl => ⟨by rw [treeOk_no hxk (hv)], hl.mod⟩)
  have hu0 : up ≠ 0 := u0
  obtain ⟨ku, rfl, hku⟩ := depth_up hxk q2 u0
  obtain ⟨b5, o5, z, r5, e5, hR5, hb5, hzk, hr5, hl5, hc5⟩ := h.get hku
  obtain ⟨rfl, rfl⟩ : b1 = b5 ∧ o1 = o5 := by simpa using e5
  obtain ⟨kb, kd, rb, rd, rfl, hk5, _, _⟩ := hr5
  have hfz : z.kids.length ≤ 1048576 := (hfit _ (List.mem_of_getElem? hzk.out)).1
  have hup := upOk_at (l := l) (i := k) (x := ⟨((ku + 1 : Nat) : Int), kids, st, me, ru⟩) rfl hzk.out
  by_cases c1 : z.kids.count ((k + 1 : Nat) : Int) = 1
  rotate_left
  · rw [decide_eq_false c1] at hup
    have hv := nodeOk_u hup
    repeat (first | refine qan ?_ | refine qaj ?_ | refine qaf ?_ | refine qad ?_ | refine SX.block ?_ | refine qaC ?_ | refine qaq rfl ?_ | (refine qaw ?_; (first | refine qac (qaT rfl hc1 (nodeRow_len _ _ _ _ _ _ _ _ _) (Nat.succ_pos _) (fun h => h)) rfl ?_ ?_ ?_ | refine qac (qaE (cells := nodeRow _ ka kids.length kc st me ra ru.length rc) 0 rfl rfl rfl (nodeRow_style _ _ _ _ _ _ _ _ _)) rfl ?_ ?_ ?_ | refine qac (qav 0 rfl rfl rfl) rfl ?_ ?_ ?_ | refine qac (qal 1 rfl rfl rfl) rfl ?_ ?_ ?_); rfl; rfl) | (refine qau ?_; (first | refine qac (qao rfl (fun w hl => sstyleC_any _ _)) rfl ?_ ?_ ?_ | refine qac (qao rfl (fun w hl => sdepthOf_any l _ o _ c R _ (by omega) (h.keep hl.mod))) rfl ?_ ?_ ?_ | refine qac (qao rfl (fun w hl => snode_any _ _ _ _ ku _ _ _ _ _ _ _ _ _ w (by omega) hku (fun j v hv => hl.old (hc5 j v hv) (fun h => h)))) rfl ?_ ?_ ?_ | refine qac (qao rfl (fun w hl => shas_any z.kids _ kb kd R _ hfz (hk5.flatKeep hl.mod))) rfl ?_ ?_ ?_ | refine qac (qaN rfl (fun w _ => l01In_any _ _ _ _)) rfl ?_ ?_ ?_); rfl; rfl) | (refine l_field ?_; (refine qac (OpW.field rfl (nodeRow_a1 _ _ _ _ _ _ _ _ _)) rfl ?_ ?_ ?_); rfl; rfl) | (refine qai ?_; (refine qac (qae rfl) rfl ?_ ?_ ?_); rfl; rfl) | (refine qap ?_; (refine qac (qak rfl) rfl ?_ ?_ ?_); rfl; rfl) | (refine qam ?_; (refine qac (qah rfl) rfl ?_ ?_ ?_); rfl; rfl) | (refine l_len ?_; (refine qac (OpW.len rfl) rfl ?_ ?_ ?_); rfl; rfl) | (refine l_add ?_; (refine qac (OpW.succ rfl rfl (by omega)) rfl ?_ ?_ ?_); rfl; rfl) | (refine l_lss ?_; (refine qac (OpW.lssT rfl rfl (by omega)) rfl ?_ ?_ ?_); rfl; rfl) | (refine l_neq ?_; (refine qac (OpW.neqT rfl rfl (by omega)) rfl ?_ ?_ ?_); rfl; rfl) | (refine l_not ?_; (refine qac (OpW.not rfl) rfl ?_ ?_ ?_); rfl; rfl) | (refine qaG ?_; (refine qac (qay rfl rfl rfl) rfl ?_ ?_ ?_); rfl; rfl) | (refine qaI ?_; (refine qac (qaF (by omega) rfl rfl) rfl ?_ ?_ ?_); rfl; rfl) | (refine qaH ?_; refine SXl.alloc ?_ ?_ (fun g => ?_); rfl; rfl) | (refine qas ?_; first | ((first | refine qaa 0 ?_ rfl rfl rfl rfl rfl rfl rfl ?_ | refine qaa 1 ?_ rfl rfl rfl rfl rfl rfl rfl ?_ | refine qaa 2 ?_ rfl rfl rfl rfl rfl rfl rfl ?_); rfl; simp only [List.set_cons_zero, List.set_cons_succ]) | ((first | refine qab 0 ?_ rfl rfl rfl rfl rfl rfl rfl ?_ | refine qab 1 ?_ rfl rfl rfl rfl rfl rfl rfl ?_ | refine qab 2 ?_ rfl rfl rfl rfl rfl rfl rfl ?_); rfl; simp only [over, List.set_cons_zero, List.set_cons_succ])) | ((first | rw [q1] | rw [q2])) | refine qaz ?_ | refine qax ?_ | refine qaD ?_)
    refine qaA rfl rfl (fun w' hl => ⟨by rw [treeOk_no hxk (hv)], hl.mod⟩)
  rw [decide_eq_true c1] at hup
  repeat (first | refine qan ?_ | refine qaj ?_ | refine qaf ?_ | refine qad ?_ | refine SX.block ?_ | refine qaC ?_ | refine qaq rfl ?_ | refine qat rfl ?_ | (refine qaw ?_; (first | refine qac (qaT rfl hc1 (nodeRow_len _ _ _ _ _ _ _ _ _) (Nat.succ_pos _) (fun h => h)) rfl ?_ ?_ ?_ | refine qac (qaE (cells := nodeRow _ ka kids.length kc st me ra ru.length rc) 0 rfl rfl rfl (nodeRow_style _ _ _ _ _ _ _ _ _)) rfl ?_ ?_ ?_ | refine qac (qav 0 rfl rfl rfl) rfl ?_ ?_ ?_ | refine qac (qal 1 rfl rfl rfl) rfl ?_ ?_ ?_); rfl; rfl) | (refine qau ?_; (first | refine qac (qao rfl (fun w hl => sstyleC_any _ _)) rfl ?_ ?_ ?_ | refine qac (qao rfl (fun w hl => sdepthOf_any l _ o _ c R _ (by omega) (h.keep hl.mod))) rfl ?_ ?_ ?_ | refine qac (qao rfl (fun w hl => snode_any _ _ _ _ ku _ _ _ _ _ _ _ _ _ w (by omega) hku (fun j v hv => hl.old (hc5 j v hv) (fun h => h)))) rfl ?_ ?_ ?_ | refine qac (qao rfl (fun w hl => shas_any z.kids _ kb kd R _ hfz (hk5.flatKeep hl.mod))) rfl ?_ ?_ ?_ | refine qac (qaN rfl (fun w _ => l01In_any _ _ _ _)) rfl ?_ ?_ ?_); rfl; rfl) | (refine l_field ?_; (refine qac (OpW.field rfl (nodeRow_a1 _ _ _ _ _ _ _ _ _)) rfl ?_ ?_ ?_); rfl; rfl) | (refine qai ?_; (refine qac (qae rfl) rfl ?_ ?_ ?_); rfl; rfl) | (refine qap ?_; (refine qac (qak rfl) rfl ?_ ?_ ?_); rfl; rfl) | (refine qam ?_; (refine qac (qah rfl) rfl ?_ ?_ ?_); rfl; rfl) | (refine l_len ?_; (refine qac (OpW.len rfl) rfl ?_ ?_ ?_); rfl; rfl) | (refine l_add ?_; (refine qac (OpW.succ rfl rfl (by omega)) rfl ?_ ?_ ?_); rfl; rfl) | (refine l_lss ?_; (refine qac (OpW.lssT rfl rfl (by omega)) rfl ?_ ?_ ?_); rfl; rfl) | (refine l_neq ?_; (first | refine qac (OpW.neqT rfl rfl (by omega)) rfl ?_ ?_ ?_ | refine qac (OpW.neqF rfl rfl (by omega)) rfl ?_ ?_ ?_); rfl; rfl) | (refine l_not ?_; (refine qac (OpW.not rfl) rfl ?_ ?_ ?_); rfl; rfl) | (refine qaG ?_; (refine qac (qay rfl rfl rfl) rfl ?_ ?_ ?_); rfl; rfl) | (refine qaI ?_; (refine qac (qaF (by omega) rfl rfl) rfl ?_ ?_ ?_); rfl; rfl) | (refine qaH ?_; refine SXl.alloc ?_ ?_ (fun g => ?_); rfl; rfl) | (refine qas ?_; first | ((first | refine qaa 0 ?_ rfl rfl rfl rfl rfl rfl rfl ?_ | refine qaa 1 ?_ rfl rfl rfl rfl rfl rfl rfl ?_ | refine qaa 2 ?_ rfl rfl rfl rfl rfl rfl rfl ?_); rfl; simp only [List.set_cons_zero, List.set_cons_succ]) | ((first | refine qab 0 ?_ rfl rfl rfl rfl rfl rfl rfl ?_ | refine qab 1 ?_ rfl rfl rfl rfl rfl rfl rfl ?_ | refine qab 2 ?_ rfl rfl rfl rfl rfl rfl rfl ?_); rfl; simp only [over, List.set_cons_zero, List.set_cons_succ])) | ((first | rw [q1] | rw [q2])))
  refine SX.loopi (fun j : Nat => j ≤ kids.length ∧ ∀ i y, i < j → kids[i]? = some y → kidOk l k y = true) (fun j => kids.length - j) (fun _ => [⟨g, nodeRow ((ku + 1 : Nat) : Int) ka kids.length kc st me ra ru.length rc, 86⟩, ⟨gt, [.slice (some ⟨b1, o1, none⟩) l.length c], 37⟩]) (fun _ => []) (fun _ => []) (fun j => [(1, .pointer (some ⟨gt, 0, none⟩)), (4, .pointer (some ⟨g, 0, none⟩)), (3, .int .i64 k), (5, .int .i64 j)]) 0 ⟨Nat.zero_le _, fun i x h => absurd h (Nat.not_lt_zero _)⟩ ?_ (fun _ hl => hl) ?_
  · (repeat (first | exact subF_nil _ | (refine subF_cons rfl ?_) | (refine subF_consv rfl (by rfl) ?_)))
  rintro j ⟨hj, hks⟩
  by_cases hjl : j < kids.length
  · obtain ⟨b3, o3, y, e3, hR3, hb3, hyk, hc3⟩ := IntSlice.get hk1 hjl
    subst e3
    replace hyk := hyk.out
    cases p1 : inB y 1 l.length
    · have hv := nodeOk_k (l := l) (i := k) (x := ⟨((ku + 1 : Nat) : Int), kids, st, me, ru⟩) hyk (by simp [kidOk, p1])
      repeat (first | refine qan ?_ | refine qaj ?_ | refine qaf ?_ | refine qad ?_ | refine SX.block ?_ | refine qaC ?_ | refine qaq rfl ?_ | (refine qaw ?_; (refine qac (qav 0 rfl rfl rfl) rfl ?_ ?_ ?_); rfl; rfl) | (refine qai ?_; (refine qac (qae rfl) rfl ?_ ?_ ?_); rfl; rfl) | (refine qap ?_; (refine qac (qak rfl) rfl ?_ ?_ ?_); rfl; rfl) | (refine qam ?_; (refine qac (qah rfl) rfl ?_ ?_ ?_); rfl; rfl) | (refine l_len ?_; (refine qac (OpW.len rfl) rfl ?_ ?_ ?_); rfl; rfl) | (refine l_lss ?_; (refine qac (OpW.lssT rfl rfl (by omega)) rfl ?_ ?_ ?_); rfl; rfl) | refine SX.drawn (by kernel_rfl) (by kernel_rfl) ?_ | refine SXr.nil ?_ | (refine SXr.no rfl rfl rfl ?_) | (refine r_call ?_; (refine SXr.v (qao rfl (fun w hl => sisNode_any _ _ _ _ _)) rfl ?_ ?_ ?_); rfl; rfl) | (refine r_load ?_; (first | refine SXr.v (qav 0 rfl rfl rfl) rfl ?_ ?_ ?_ | refine SXr.v (OpW.loadOld rfl (by assumption) (fun h => h)) rfl ?_ ?_ ?_ | refine SXr.v (qal 1 rfl rfl rfl) rfl ?_ ?_ ?_); rfl; rfl) | (refine r_fieldAddr ?_; (refine SXr.v (qae rfl) rfl ?_ ?_ ?_); rfl; rfl) | (refine r_move ?_; (refine SXr.v (qak rfl) rfl ?_ ?_ ?_); rfl; rfl) | (refine r_not ?_; (refine SXr.v (OpW.not rfl) rfl ?_ ?_ ?_); rfl; rfl) | (refine r_pick ?_; (refine SXr.v (qay rfl rfl rfl) rfl ?_ ?_ ?_); rfl; rfl) | (refine r_indexAddr ?_; (refine SXr.v (OpW.indexAddr1 (by omega) rfl rfl) rfl ?_ ?_ ?_); rfl; rfl) | (rw [p1]) | refine qaz ?_ | refine qax ?_ | refine qaD ?_)
      refine qaA rfl rfl (fun w' hl => ⟨by rw [treeOk_no hxk (hv)], hl.mod⟩)
    obtain ⟨ky, rfl, hky⟩ := inB_node p1
    obtain ⟨b2, o2, z, r2, e2, hR2, hb2, hzk, hr2, hl2, hc2⟩ := h.get hky
    obtain ⟨rfl, rfl⟩ : b1 = b2 ∧ o1 = o2 := by simpa using e2
    obtain ⟨kb, kd, rb, rd, rfl, _, _, _⟩ := hr2
    have hkid : kidOk l k ((ky + 1 : Nat) : Int) = decide (z.up = ((k + 1 : Nat) : Int)) := kidOk_at p1 hzk.out
    by_cases p2 : z.up = ((k + 1 : Nat) : Int)
    · repeat (first | refine qan ?_ | refine qaj ?_ | refine qaf ?_ | refine qad ?_ | refine SX.block ?_ | refine qaC ?_ | refine qaq rfl ?_ | refine qat rfl ?_ | (refine qaw ?_; (refine qac (qav 0 rfl rfl rfl) rfl ?_ ?_ ?_); rfl; rfl) | (refine qai ?_; (refine qac (qae rfl) rfl ?_ ?_ ?_); rfl; rfl) | (refine qap ?_; (refine qac (qak rfl) rfl ?_ ?_ ?_); rfl; rfl) | (refine qam ?_; (refine qac (qah rfl) rfl ?_ ?_ ?_); rfl; rfl) | (refine l_len ?_; (refine qac (OpW.len rfl) rfl ?_ ?_ ?_); rfl; rfl) | (refine l_add ?_; (refine qac (OpW.succ rfl rfl (by omega)) rfl ?_ ?_ ?_); rfl; rfl) | (refine l_lss ?_; (refine qac (OpW.lssT rfl rfl (by omega)) rfl ?_ ?_ ?_); rfl; rfl) | refine SX.drawn (by kernel_rfl) (by kernel_rfl) ?_ | refine SXr.nil ?_ | (refine r_call ?_; (first | refine SXr.v (qao rfl (fun w hl => sisNode_any _ _ _ _ _)) rfl ?_ ?_ ?_ | refine SXr.v (qao rfl (fun w hl => snode_any _ _ _ _ ky _ _ _ _ _ _ _ _ _ w (by omega) hky (fun j v hv => hl.old (hc2 j v hv) (fun h => h)))) rfl ?_ ?_ ?_); rfl; rfl) | (refine r_field ?_; (refine SXr.v (OpW.field rfl (nodeRow_a0 _ _ _ _ _ _ _ _ _)) rfl ?_ ?_ ?_); rfl; rfl) | (refine r_load ?_; (first | refine SXr.v (qav 0 rfl rfl rfl) rfl ?_ ?_ ?_ | refine SXr.v (OpW.loadOld rfl (by assumption) (fun h => h)) rfl ?_ ?_ ?_ | refine SXr.v (qal 1 rfl rfl rfl) rfl ?_ ?_ ?_); rfl; rfl) | (refine r_fieldAddr ?_; (refine SXr.v (qae rfl) rfl ?_ ?_ ?_); rfl; rfl) | (refine r_move ?_; (refine SXr.v (qak rfl) rfl ?_ ?_ ?_); rfl; rfl) | (refine r_add ?_; (refine SXr.v (OpW.succ rfl rfl (by omega)) rfl ?_ ?_ ?_); rfl; rfl) | (refine r_neq ?_; (refine SXr.v (OpW.neqF rfl rfl (by omega)) rfl ?_ ?_ ?_); rfl; rfl) | (refine r_not ?_; (refine SXr.v (OpW.not rfl) rfl ?_ ?_ ?_); rfl; rfl) | (refine r_pick ?_; (refine SXr.v (qay rfl rfl rfl) rfl ?_ ?_ ?_); rfl; rfl) | (refine r_indexAddr ?_; (refine SXr.v (OpW.indexAddr1 (by omega) rfl rfl) rfl ?_ ?_ ?_); rfl; rfl) | (rw [p1]) | refine qar ?_)
      refine SQ.roundi (j + 1) ⟨by omega, pto_succ hks hyk (by rw [hkid]; exact decide_eq_true p2)⟩ (by omega) ?_ (fun _ hl => hl)
      (repeat (first | exact subF_nil _ | (refine subF_cons rfl ?_) | (refine subF_consv rfl (by rfl) ?_)))
    · have hv := nodeOk_k (l := l) (i := k) (x := ⟨((ku + 1 : Nat) : Int), kids, st, me, ru⟩) hyk (by rw [hkid]; exact decide_eq_false p2)
      repeat (first | refine qan ?_ | refine qaj ?_ | refine qaf ?_ | refine qad ?_ | refine SX.block ?_ | refine qaC ?_ | refine qaq rfl ?_ | (refine qaw ?_; (refine qac (qav 0 rfl rfl rfl) rfl ?_ ?_ ?_); rfl; rfl) | (refine qai ?_; (refine qac (qae rfl) rfl ?_ ?_ ?_); rfl; rfl) | (refine qap ?_; (refine qac (qak rfl) rfl ?_ ?_ ?_); rfl; rfl) | (refine qam ?_; (refine qac (qah rfl) rfl ?_ ?_ ?_); rfl; rfl) | (refine l_len ?_; (refine qac (OpW.len rfl) rfl ?_ ?_ ?_); rfl; rfl) | (refine l_lss ?_; (refine qac (OpW.lssT rfl rfl (by omega)) rfl ?_ ?_ ?_); rfl; rfl) | refine SX.drawn (by kernel_rfl) (by kernel_rfl) ?_ | refine SXr.nil ?_ | (refine r_call ?_; (first | refine SXr.v (qao rfl (fun w hl => sisNode_any _ _ _ _ _)) rfl ?_ ?_ ?_ | refine SXr.v (qao rfl (fun w hl => snode_any _ _ _ _ ky _ _ _ _ _ _ _ _ _ w (by omega) hky (fun j v hv => hl.old (hc2 j v hv) (fun h => h)))) rfl ?_ ?_ ?_); rfl; rfl) | (refine r_field ?_; (refine SXr.v (OpW.field rfl (nodeRow_a0 _ _ _ _ _ _ _ _ _)) rfl ?_ ?_ ?_); rfl; rfl) | (refine r_load ?_; (first | refine SXr.v (qav 0 rfl rfl rfl) rfl ?_ ?_ ?_ | refine SXr.v (OpW.loadOld rfl (by assumption) (fun h => h)) rfl ?_ ?_ ?_ | refine SXr.v (qal 1 rfl rfl rfl) rfl ?_ ?_ ?_); rfl; rfl) | (refine r_fieldAddr ?_; (refine SXr.v (qae rfl) rfl ?_ ?_ ?_); rfl; rfl) | (refine r_move ?_; (refine SXr.v (qak rfl) rfl ?_ ?_ ?_); rfl; rfl) | (refine r_add ?_; (refine SXr.v (OpW.succ rfl rfl (by omega)) rfl ?_ ?_ ?_); rfl; rfl) | (refine r_neq ?_; (refine SXr.v (OpW.neqT rfl rfl (by omega)) rfl ?_ ?_ ?_); rfl; rfl) | (refine r_not ?_; (refine SXr.v (OpW.not rfl) rfl ?_ ?_ ?_); rfl; rfl) | (refine r_pick ?_; (refine SXr.v (qay rfl rfl rfl) rfl ?_ ?_ ?_); rfl; rfl) | (refine r_indexAddr ?_; (refine SXr.v (OpW.indexAddr1 (by omega) rfl rfl) rfl ?_ ?_ ?_); rfl; rfl) | (rw [p1]) | refine qaz ?_ | refine qax ?_ | refine qaD ?_)
      refine qaA rfl rfl (fun w' hl => ⟨by rw [treeOk_no hxk (hv)], hl.mod⟩)
  have hka := all_ints (p := kidOk l k) hks (by omega)
  cases me
  · by_cases r0 : ru.length = 0
    · repeat (first | refine qan ?_ | refine qaj ?_ | refine qaf ?_ | refine qad ?_ | refine qaC ?_ | refine qat rfl ?_ | (refine qaS rfl rfl rfl ?_) | (refine qaw ?_; (refine qac (qav 0 rfl rfl rfl) rfl ?_ ?_ ?_); rfl; rfl) | (refine qai ?_; (refine qac (qae rfl) rfl ?_ ?_ ?_); rfl; rfl) | (refine qap ?_; (refine qac (qak rfl) rfl ?_ ?_ ?_); rfl; rfl) | (refine qam ?_; (refine qac (qah rfl) rfl ?_ ?_ ?_); rfl; rfl) | (refine l_len ?_; (refine qac (OpW.len rfl) rfl ?_ ?_ ?_); rfl; rfl) | (refine l_add ?_; (refine qac (OpW.succ rfl rfl (by omega)) rfl ?_ ?_ ?_); rfl; rfl) | (refine l_gtr ?_; (refine qac (OpW.gtrF rfl rfl (by omega)) rfl ?_ ?_ ?_); rfl; rfl) | (refine l_lss ?_; (refine qac (OpW.lssF rfl rfl (by omega)) rfl ?_ ?_ ?_); rfl; rfl) | (refine l_not ?_; (refine qac (OpW.not rfl) rfl ?_ ?_ ?_); rfl; rfl) | (refine qaG ?_; (refine qac (qay rfl rfl rfl) rfl ?_ ?_ ?_); rfl; rfl) | refine SX.exit ?_ | refine qaO ?_ | refine qar ?_ | refine qaK ?_)
      refine SQ.roundi (k + 1) ⟨by omega, pto_succ hs hxk (nodeOk_y q1 q2 hka hup (by simp [tabOk, r0]))⟩ (by omega) ?_ (fun _ hl => hl.drop1)
      (repeat (first | exact subF_nil _ | (refine subF_cons rfl ?_) | (refine subF_consv rfl (by rfl) ?_)))
    · have hv := nodeOk_t (l := l) (i := k) (x := ⟨((ku + 1 : Nat) : Int), kids, st, false, ru⟩) (by simp [tabOk]; intro e; exact r0 (by rw [e]; rfl))
      repeat (first | refine qan ?_ | refine qaj ?_ | refine qaf ?_ | refine qad ?_ | refine qaq rfl ?_ | refine qat rfl ?_ | (refine qaS rfl rfl rfl ?_) | (refine qaw ?_; (refine qac (qav 0 rfl rfl rfl) rfl ?_ ?_ ?_); rfl; rfl) | (refine qai ?_; (refine qac (qae rfl) rfl ?_ ?_ ?_); rfl; rfl) | (refine qap ?_; (refine qac (qak rfl) rfl ?_ ?_ ?_); rfl; rfl) | (refine qam ?_; (refine qac (qah rfl) rfl ?_ ?_ ?_); rfl; rfl) | (refine l_len ?_; (refine qac (OpW.len rfl) rfl ?_ ?_ ?_); rfl; rfl) | (refine l_gtr ?_; (refine qac (OpW.gtrT rfl rfl (by omega)) rfl ?_ ?_ ?_); rfl; rfl) | (refine l_lss ?_; (refine qac (OpW.lssF rfl rfl (by omega)) rfl ?_ ?_ ?_); rfl; rfl) | (refine l_not ?_; (refine qac (OpW.not rfl) rfl ?_ ?_ ?_); rfl; rfl) | (refine qaG ?_; (refine qac (qay rfl rfl rfl) rfl ?_ ?_ ?_); rfl; rfl) | refine qaz ?_ | refine SX.exit ?_ | refine qax ?_ | refine qaO ?_ | refine qaD ?_ | refine qaK ?_)
      refine qaA rfl rfl (fun w' hl => ⟨by rw [treeOk_no hxk (hv)], hl.mod⟩)
  · cases tq : tableOk ru
    · have hv := nodeOk_t (l := l) (i := k) (x := ⟨((ku + 1 : Nat) : Int), kids, st, true, ru⟩) (by simp [tabOk, tq])
      repeat (first | refine qan ?_ | refine qaj ?_ | refine qaf ?_ | refine qad ?_ | refine qaq rfl ?_ | refine qat rfl ?_ | (refine qaS rfl rfl rfl ?_) | (refine qaw ?_; (first | refine qac (qaE (cells := nodeRow _ _ _ _ _ _ _ _ _) 0 rfl rfl rfl (nodeRow_tab _ _ _ _ _ _ _ _ _)) rfl ?_ ?_ ?_ | refine qac (qav 0 rfl rfl rfl) rfl ?_ ?_ ?_); rfl; rfl) | (refine qau ?_; (refine qac (qao rfl (fun w hl => stableOk_any ru ra rc R _ hf2 (ht1.flatKeep hl.mod))) rfl ?_ ?_ ?_); rfl; rfl) | (refine qai ?_; (refine qac (qae rfl) rfl ?_ ?_ ?_); rfl; rfl) | (refine qap ?_; (refine qac (qak rfl) rfl ?_ ?_ ?_); rfl; rfl) | (refine qam ?_; (refine qac (qah rfl) rfl ?_ ?_ ?_); rfl; rfl) | (refine l_len ?_; (refine qac (OpW.len rfl) rfl ?_ ?_ ?_); rfl; rfl) | (refine l_lss ?_; (refine qac (OpW.lssF rfl rfl (by omega)) rfl ?_ ?_ ?_); rfl; rfl) | (refine l_not ?_; (refine qac (OpW.not rfl) rfl ?_ ?_ ?_); rfl; rfl) | (refine qaG ?_; (refine qac (qay rfl rfl rfl) rfl ?_ ?_ ?_); rfl; rfl) | (rw [tq]) | refine qaz ?_ | refine SX.exit ?_ | refine qax ?_ | refine qaO ?_ | refine qaD ?_ | refine qaK ?_)
      refine qaA rfl rfl (fun w' hl => ⟨by rw [treeOk_no hxk (hv)], hl.mod⟩)
    by_cases k0 : kids.length = 0
    · repeat (first | refine qan ?_ | refine qaj ?_ | refine qaf ?_ | refine qad ?_ | refine qaC ?_ | refine qat rfl ?_ | (refine qaS rfl rfl rfl ?_) | (refine qaw ?_; (first | refine qac (qaE (cells := nodeRow _ _ _ _ _ _ _ _ _) 0 rfl rfl rfl (nodeRow_tab _ _ _ _ _ _ _ _ _)) rfl ?_ ?_ ?_ | refine qac (qav 0 rfl rfl rfl) rfl ?_ ?_ ?_); rfl; rfl) | (refine qau ?_; (refine qac (qao rfl (fun w hl => stableOk_any ru ra rc R _ hf2 (ht1.flatKeep hl.mod))) rfl ?_ ?_ ?_); rfl; rfl) | (refine qai ?_; (refine qac (qae rfl) rfl ?_ ?_ ?_); rfl; rfl) | (refine qap ?_; (refine qac (qak rfl) rfl ?_ ?_ ?_); rfl; rfl) | (refine qam ?_; (refine qac (qah rfl) rfl ?_ ?_ ?_); rfl; rfl) | (refine l_len ?_; (refine qac (OpW.len rfl) rfl ?_ ?_ ?_); rfl; rfl) | (refine l_add ?_; (refine qac (OpW.succ rfl rfl (by omega)) rfl ?_ ?_ ?_); rfl; rfl) | (refine l_gtr ?_; (refine qac (OpW.gtrF rfl rfl (by omega)) rfl ?_ ?_ ?_); rfl; rfl) | (refine l_lss ?_; (refine qac (OpW.lssF rfl rfl (by omega)) rfl ?_ ?_ ?_); rfl; rfl) | (refine l_not ?_; (refine qac (OpW.not rfl) rfl ?_ ?_ ?_); rfl; rfl) | (refine qaG ?_; (refine qac (qay rfl rfl rfl) rfl ?_ ?_ ?_); rfl; rfl) | (rw [tq]) | refine SX.exit ?_ | refine qaO ?_ | refine qar ?_ | refine qaK ?_)
      refine SQ.roundi (k + 1) ⟨by omega, pto_succ hs hxk (nodeOk_y q1 q2 hka hup (by simp [tabOk, tq, k0]))⟩ (by omega) ?_ (fun _ hl => hl.drop1)
      (repeat (first | exact subF_nil _ | (refine subF_cons rfl ?_) | (refine subF_consv rfl (by rfl) ?_)))
    · have hv := nodeOk_t (l := l) (i := k) (x := ⟨((ku + 1 : Nat) : Int), kids, st, true, ru⟩) (by simp [tabOk, tq]; intro e; exact k0 (by rw [e]; rfl))
      repeat (first | refine qan ?_ | refine qaj ?_ | refine qaf ?_ | refine qad ?_ | refine qaq rfl ?_ | refine qat rfl ?_ | (refine qaS rfl rfl rfl ?_) | (refine qaw ?_; (first | refine qac (qaE (cells := nodeRow _ _ _ _ _ _ _ _ _) 0 rfl rfl rfl (nodeRow_tab _ _ _ _ _ _ _ _ _)) rfl ?_ ?_ ?_ | refine qac (qav 0 rfl rfl rfl) rfl ?_ ?_ ?_); rfl; rfl) | (refine qau ?_; (refine qac (qao rfl (fun w hl => stableOk_any ru ra rc R _ hf2 (ht1.flatKeep hl.mod))) rfl ?_ ?_ ?_); rfl; rfl) | (refine qai ?_; (refine qac (qae rfl) rfl ?_ ?_ ?_); rfl; rfl) | (refine qap ?_; (refine qac (qak rfl) rfl ?_ ?_ ?_); rfl; rfl) | (refine qam ?_; (refine qac (qah rfl) rfl ?_ ?_ ?_); rfl; rfl) | (refine l_len ?_; (refine qac (OpW.len rfl) rfl ?_ ?_ ?_); rfl; rfl) | (refine l_gtr ?_; (refine qac (OpW.gtrT rfl rfl (by omega)) rfl ?_ ?_ ?_); rfl; rfl) | (refine l_lss ?_; (refine qac (OpW.lssF rfl rfl (by omega)) rfl ?_ ?_ ?_); rfl; rfl) | (refine l_not ?_; (refine qac (OpW.not rfl) rfl ?_ ?_ ?_); rfl; rfl) | (refine qaG ?_; (refine qac (qay rfl rfl rfl) rfl ?_ ?_ ?_); rfl; rfl) | (rw [tq]) | refine qaz ?_ | refine SX.exit ?_ | refine qax ?_ | refine qaO ?_ | refine qaD ?_ | refine qaK ?_)
      refine qaA rfl rfl (fun w' hl => ⟨by rw [treeOk_no hxk (hv)], hl.mod⟩)

end Go.Proofs.Ythffgbhphjkdeaa
namespace Go.Proofs.Ythffgbhphjkdeaa
open Go.RowKit
set_option linter.unusedVariables false
set_option linter.unusedSimpArgs false

/-- Where a tree of the call's own lies. -/
structure TreeQ where
  ps : List PNode
  a : Option Addr
  c : Nat
def TreeQ.v (q : TreeQ) : Value := .agg [.slice q.a q.ps.length q.c].toArray
def TreeQ.os (q : TreeQ) : List Own := treeO q.ps q.a q.c
/-- A new tree. -/
def NewTree (l : List Node) (w : World) (e : Ending) (w' : World) : Prop := NewO TreeQ TreeQ.v TreeQ.os (fun q => bare q.ps = l) w e w'
theorem icell_one1 (x : Int) : ∀ u ∈ icell x, u.oneCell' = true := fun u hu => by simp [icell] at hu; subst hu; rfl
theorem rule_one1 (x : Rule) : ∀ u ∈ Rule.cells x, u.oneCell' = true := fun u hu => by simp [Rule.cells] at hu; rcases hu with rfl | rfl | rfl <;> rfl
theorem rowP_ones (x : PNode) : (rowP x).all (·.oneCell') = true := List.all_eq_true.2 (rowP_one x)
theorem Loc.drop2 {W : World} {R : Rg W} {a b : Blk} {L : List Blk} {O : List Own} {E : List Res} {w : World} (h : Loc W R (a :: b :: L) O E w) : Loc W R L O E w := h.drop1.drop1
/-- One node more. -/
theorem Loc.treePush {W : World} {R : Rg W} {L : List Blk} {E : List Res} {w : World} {ps : List PNode} {x : PNode} {a : Option Addr} {c : Nat}
    (h : Loc W R L (rulesO x :: kidsO x :: ⟨.slice a (ps.length + 1) c, 86, 64, ps.length + 1, (ps.map rowP).flatten ++ rowP x⟩ :: partsO ps) E w) : Loc W R L (treeO (ps ++ [x]) a c) E w := by
  refine h.ownPerm ?_
  unfold treeO nodesO
  rw [partsO_append, List.map_append, List.flatten_append, List.length_append]
  simp only [List.map_cons, List.map_nil, List.flatten_cons, List.flatten_nil, List.append_nil, List.length_cons, List.length_nil, Nat.zero_add]
  rw [partsO_cons]
  generalize (⟨_, _, _, _, _⟩ : Own) = n
  generalize partsO ps = p
  refine List.Perm.symm ?_
  refine (List.Perm.swap _ _ _).trans ?_
  refine ((List.Perm.swap _ _ _).cons _).trans ?_
  refine (List.Perm.swap _ _ _).trans ?_
  refine List.Perm.cons _ ?_
  show List.Perm ([kidsO x, rulesO x] ++ p) (p ++ [kidsO x, rulesO x])
  exact List.perm_append_comm
set_option maxRecDepth 100000 in
set_option maxHeartbeats 8000000 in
theorem scopyTree_any (l : List Node) (o : Bool) (a : Option Addr) (c : Nat) (R : Nat → Prop) (w : World) (hlen : l.length ≤ 1048576) (hfit : ∀ x ∈ l, x.fits 1048576) (h : NodeSlice o R w a l) :
    Calls Try.prog 77 #[.agg #[.slice a l.length c]] w (NewTree l w) := by
  refine calls_sx Try.func77 rfl rfl (fun a h1 h2 h3 => ((Fr.nil h1 h2).arg (h3 0 _ rfl))) ?_
  repeat (first | refine qan ?_ | refine qaj ?_ | refine qaf ?_ | refine qad ?_ | refine SX.block ?_ | (refine qam ?_; (refine qac (qah rfl) rfl ?_ ?_ ?_); rfl; rfl) | (refine l_build ?_; (refine qac (OpW.build rfl rfl) rfl ?_ ?_ ?_); rfl; rfl) | (refine qaH ?_; refine SXl.alloc ?_ ?_ (fun g => ?_); rfl; rfl) | (refine l_box ?_; refine qaM ?_ ?_ rfl rfl (fun g => ?_); rfl; rfl) | (refine qas ?_; first | ((first | refine qag 0 ?_ rfl rfl rfl rfl rfl rfl ?_ | refine qag 1 ?_ rfl rfl rfl rfl rfl rfl ?_ | refine qag 2 ?_ rfl rfl rfl rfl rfl rfl ?_); rfl; simp only [List.set_cons_zero, List.set_cons_succ]) | ((first | refine qaa 0 ?_ rfl rfl rfl rfl rfl rfl rfl ?_ | refine qaa 1 ?_ rfl rfl rfl rfl rfl rfl rfl ?_ | refine qaa 2 ?_ rfl rfl rfl rfl rfl rfl rfl ?_); rfl; simp only [List.set_cons_zero, List.set_cons_succ]) | ((first | refine qab 0 ?_ rfl rfl rfl rfl rfl rfl rfl ?_ | refine qab 1 ?_ rfl rfl rfl rfl rfl rfl rfl ?_ | refine qab 2 ?_ rfl rfl rfl rfl rfl rfl rfl ?_); rfl; simp only [over, List.set_cons_zero, List.set_cons_succ])))
  rename_i g1 g2
  refine SX.ownNil 86 64 ?_
  refine SX.loop3 (fun (k : Nat) (q : TreeQ) (_ : Unit) => k ≤ l.length ∧ bare q.ps = l.take k) (fun k _ _ => l.length - k) (fun _ q _ => [⟨g, [.slice q.a q.ps.length q.c], 37⟩, ⟨g2, [.slice none 0 0], 37⟩, ⟨g1, [.slice a l.length c], 37⟩]) (fun _ q _ => q.os) (fun _ _ _ => []) (fun k _ _ => [(1, .pointer (some ⟨g1, 0, none⟩)), (2, .pointer (some ⟨g2, 0, none⟩)), (3, .pointer (some ⟨g, 0, none⟩)), (4, .int .i64 k)]) 0 ⟨[], none, 0⟩ () ⟨Nat.zero_le _, rfl⟩ ?_ (fun w hl => hl) ?_
  · (repeat (first | exact subF_nil _ | (refine subF_cons rfl ?_) | (refine subF_consv rfl (by rfl) ?_)))
  rintro k q _ ⟨hk, hq⟩
  have hql : q.ps.length = k := by rw [← bare_len, hq, List.length_take]; omega
  by_cases hlt : k < l.length
  rotate_left
  · have hk' : k = l.length := by omega
    repeat (first | refine qan ?_ | refine qaj ?_ | refine qaf ?_ | refine qad ?_ | refine qat rfl ?_ | (refine qaw ?_; (first | refine qac (qav 2 rfl rfl rfl) rfl ?_ ?_ ?_ | refine qac (qal 0 rfl rfl rfl) rfl ?_ ?_ ?_); rfl; rfl) | (refine qai ?_; (refine qac (qae rfl) rfl ?_ ?_ ?_); rfl; rfl) | (refine qap ?_; (refine qac (qak rfl) rfl ?_ ?_ ?_); rfl; rfl) | (refine l_len ?_; (refine qac (OpW.len rfl) rfl ?_ ?_ ?_); rfl; rfl) | (refine l_lss ?_; (refine qac (OpW.lssF rfl rfl (by omega)) rfl ?_ ?_ ?_); rfl; rfl) | (refine qas ?_; first | ((first | refine qag 0 ?_ rfl rfl rfl rfl rfl rfl ?_ | refine qag 1 ?_ rfl rfl rfl rfl rfl rfl ?_ | refine qag 2 ?_ rfl rfl rfl rfl rfl rfl ?_); rfl; simp only [List.set_cons_zero, List.set_cons_succ]) | ((first | refine qaa 0 ?_ rfl rfl rfl rfl rfl rfl rfl ?_ | refine qaa 1 ?_ rfl rfl rfl rfl rfl rfl rfl ?_ | refine qaa 2 ?_ rfl rfl rfl rfl rfl rfl rfl ?_); rfl; simp only [List.set_cons_zero, List.set_cons_succ]) | ((first | refine qab 0 ?_ rfl rfl rfl rfl rfl rfl rfl ?_ | refine qab 1 ?_ rfl rfl rfl rfl rfl rfl rfl ?_ | refine qab 2 ?_ rfl rfl rfl rfl rfl rfl rfl ?_); rfl; simp only [over, List.set_cons_zero, List.set_cons_succ])) | refine qaz ?_ | refine SX.exit ?_ | refine qaO ?_ | refine qaK ?_)
    refine qaJ 1 rfl rfl rfl rfl (fun w' hl => ⟨q, rfl, (show bare q.ps = l by rw [hq, hk', List.take_length]), hl.owns, hl.mod⟩)
  obtain ⟨b1, o1, x, r1, rfl, hR1, hb1, hxk, hr1, hl1, hc1⟩ := h.get hlt
  obtain ⟨ka, kc, ra, rc, rfl, hk1, ht1, _⟩ := hr1
  have hf := hfit x (List.mem_of_getElem? hxk.out)
  obtain ⟨hf1, hf2⟩ := hf
  repeat (first | refine qan ?_ | refine qaj ?_ | refine qaf ?_ | refine qad ?_ | refine SX.block ?_ | refine qaC ?_ | refine qaq rfl ?_ | (refine qaw ?_; (first | refine qac (qaT rfl hc1 (nodeRow_len _ _ _ _ _ _ _ _ _) (Nat.succ_pos _) (fun h => h)) rfl ?_ ?_ ?_ | refine qac (qav 0 rfl rfl rfl) rfl ?_ ?_ ?_ | refine qac (qav 2 rfl rfl rfl) rfl ?_ ?_ ?_); rfl; rfl) | (refine qai ?_; (refine qac (qae rfl) rfl ?_ ?_ ?_); rfl; rfl) | (refine qap ?_; (refine qac (qak rfl) rfl ?_ ?_ ?_); rfl; rfl) | (refine l_len ?_; (refine qac (OpW.len rfl) rfl ?_ ?_ ?_); rfl; rfl) | (refine l_lss ?_; (refine qac (OpW.lssT rfl rfl (by omega)) rfl ?_ ?_ ?_); rfl; rfl) | (refine qaI ?_; (refine qac (qaF (by omega) rfl rfl) rfl ?_ ?_ ?_); rfl; rfl) | (refine qaH ?_; refine SXl.alloc ?_ ?_ (fun g => ?_); rfl; rfl) | (refine qas ?_; first | ((first | refine qag 0 ?_ rfl rfl rfl rfl rfl rfl ?_ | refine qag 1 ?_ rfl rfl rfl rfl rfl rfl ?_ | refine qag 2 ?_ rfl rfl rfl rfl rfl rfl ?_); rfl; simp only [List.set_cons_zero, List.set_cons_succ]) | ((first | refine qaa 0 ?_ rfl rfl rfl rfl rfl rfl rfl ?_ | refine qaa 1 ?_ rfl rfl rfl rfl rfl rfl rfl ?_ | refine qaa 2 ?_ rfl rfl rfl rfl rfl rfl rfl ?_); rfl; simp only [List.set_cons_zero, List.set_cons_succ]) | ((first | refine qab 0 ?_ rfl rfl rfl rfl rfl rfl rfl ?_ | refine qab 1 ?_ rfl rfl rfl rfl rfl rfl rfl ?_ | refine qab 2 ?_ rfl rfl rfl rfl rfl rfl rfl ?_); rfl; simp only [over, List.set_cons_zero, List.set_cons_succ])) | (refine qaR ?_; first | (refine SXl.lit1 ?_ ?_ rfl rfl rfl (fun g => ?_); rfl; rfl) | (refine SXl.lit0 ?_ ?_ (fun _ h => h) rfl (fun g => ?_); rfl; rfl)))
  refine l_append ?_
  refine SXl.appendS (cs := icell) 0 x.kids rfl rfl rfl rfl rfl rfl (fun _ => rfl) icell_one1 (fun w hl => ⟨_, SliceAt.flatKeep hk1 hl.mod⟩) (by omega) (by omega) (fun a1 c1 => ?_)
  simp only [List.set_cons_zero, Nat.zero_add, List.nil_append]
  repeat (first | refine qan ?_ | refine qaj ?_ | refine qaf ?_ | refine qad ?_ | (refine qai ?_; (refine qac (qae rfl) rfl ?_ ?_ ?_); rfl; rfl) | (refine qas ?_; first | ((first | refine qag 0 ?_ rfl rfl rfl rfl rfl rfl ?_ | refine qag 1 ?_ rfl rfl rfl rfl rfl rfl ?_ | refine qag 2 ?_ rfl rfl rfl rfl rfl rfl ?_); rfl; simp only [List.set_cons_zero, List.set_cons_succ]) | ((first | refine qaa 0 ?_ rfl rfl rfl rfl rfl rfl rfl ?_ | refine qaa 1 ?_ rfl rfl rfl rfl rfl rfl rfl ?_ | refine qaa 2 ?_ rfl rfl rfl rfl rfl rfl rfl ?_); rfl; simp only [List.set_cons_zero, List.set_cons_succ]) | ((first | refine qab 0 ?_ rfl rfl rfl rfl rfl rfl rfl ?_ | refine qab 1 ?_ rfl rfl rfl rfl rfl rfl rfl ?_ | refine qab 2 ?_ rfl rfl rfl rfl rfl rfl rfl ?_); rfl; simp only [over, List.set_cons_zero, List.set_cons_succ])))
  refine qaR ?_
  refine SXl.lit0R rfl rfl (fun _ h => h) (fun g4 => ?_)
  repeat (first | (refine qaw ?_; (refine qac (qav 0 rfl rfl rfl) rfl ?_ ?_ ?_); rfl; rfl) | (refine qai ?_; (refine qac (qae rfl) rfl ?_ ?_ ?_); rfl; rfl))
  refine l_append ?_
  refine SXl.appendS (cs := Rule.cells) 0 x.rules rfl rfl rfl rfl rfl rfl (fun _ => rfl) rule_one1 (fun w hl => ⟨_, SliceAt.flatKeep ht1 hl.mod⟩) (by omega) (by omega) (fun a2 c2 => ?_)
  simp only [List.set_cons_zero, Nat.zero_add, List.nil_append]
  repeat (first | refine qaj ?_ | refine qaf ?_ | refine qad ?_ | (refine qaw ?_; (first | refine qac (qav 1 rfl rfl rfl) rfl ?_ ?_ ?_ | refine qac (qal 0 rfl rfl rfl) rfl ?_ ?_ ?_); rfl; rfl) | (refine qai ?_; (refine qac (qae rfl) rfl ?_ ?_ ?_); rfl; rfl) | (refine l_build ?_; (refine qac (OpW.build rfl rfl) rfl ?_ ?_ ?_); rfl; rfl) | (refine qas ?_; first | ((first | refine qag 0 ?_ rfl rfl rfl rfl rfl rfl ?_ | refine qag 1 ?_ rfl rfl rfl rfl rfl rfl ?_ | refine qag 2 ?_ rfl rfl rfl rfl rfl rfl ?_); rfl; simp only [List.set_cons_zero, List.set_cons_succ]) | ((first | refine qaa 0 ?_ rfl rfl rfl rfl rfl rfl rfl ?_ | refine qaa 1 ?_ rfl rfl rfl rfl rfl rfl rfl ?_ | refine qaa 2 ?_ rfl rfl rfl rfl rfl rfl rfl ?_); rfl; simp only [List.set_cons_zero, List.set_cons_succ]) | ((first | refine qab 0 ?_ rfl rfl rfl rfl rfl rfl rfl ?_ | refine qab 1 ?_ rfl rfl rfl rfl rfl rfl rfl ?_ | refine qab 2 ?_ rfl rfl rfl rfl rfl rfl rfl ?_); rfl; simp only [over, List.set_cons_zero, List.set_cons_succ])))
  refine qaR ?_
  refine SXl.litRow1 (sz := 64) (r := rowP (x, ⟨a1, c1, a2, c2⟩)) rfl rfl rfl rfl rfl (by decide) (by decide) (fun g5 => ?_)
  skip
  refine l_append ?_
  refine SXl.append 2 0 rfl rfl rfl rfl rfl rfl rfl (rowP_ones _) (by omega) (by omega) (fun a3 c3 => ?_)
  repeat (first | refine qaj ?_ | refine qaf ?_ | refine qad ?_ | (refine qai ?_; (refine qac (qae rfl) rfl ?_ ?_ ?_); rfl; rfl) | (refine qap ?_; (refine qac (qak rfl) rfl ?_ ?_ ?_); rfl; rfl) | (refine qam ?_; (refine qac (qah rfl) rfl ?_ ?_ ?_); rfl; rfl) | (refine l_add ?_; (refine qac (OpW.succ rfl rfl (by omega)) rfl ?_ ?_ ?_); rfl; rfl) | (refine qas ?_; first | ((first | refine qag 0 ?_ rfl rfl rfl rfl rfl rfl ?_ | refine qag 1 ?_ rfl rfl rfl rfl rfl rfl ?_ | refine qag 2 ?_ rfl rfl rfl rfl rfl rfl ?_); rfl; simp only [List.set_cons_zero, List.set_cons_succ]) | ((first | refine qaa 0 ?_ rfl rfl rfl rfl rfl rfl rfl ?_ | refine qaa 1 ?_ rfl rfl rfl rfl rfl rfl rfl ?_ | refine qaa 2 ?_ rfl rfl rfl rfl rfl rfl rfl ?_); rfl; simp only [List.set_cons_zero, List.set_cons_succ]) | ((first | refine qab 0 ?_ rfl rfl rfl rfl rfl rfl rfl ?_ | refine qab 1 ?_ rfl rfl rfl rfl rfl rfl rfl ?_ | refine qab 2 ?_ rfl rfl rfl rfl rfl rfl rfl ?_); rfl; simp only [over, List.set_cons_zero, List.set_cons_succ])) | refine qar ?_)
  refine SQ.round3 (k + 1) ⟨q.ps ++ [(x, ⟨a1, c1, a2, c2⟩)], a3, c3⟩ () ⟨by omega, ?_⟩ (by omega) ?_ (fun w hl => by
    show Loc _ _ (⟨_, [.slice a3 (q.ps ++ [_]).length c3], _⟩ :: _) _ _ _
    rw [List.length_append]
    exact hl.drop2.treePush)
  · show bare (q.ps ++ [(x, _)]) = _
    rw [List.take_add_one, hxk.out, bare, List.map_append, ← hq]; rfl
  · (repeat (first | exact subF_nil _ | (refine subF_cons rfl ?_) | (refine subF_consv rfl (by rw [List.length_append]; rfl) ?_)))
end Go.Proofs.Ythffgbhphjkdeaa
namespace Go.Proofs.Ythffgbhphjkdeaa
open Go.RowKit

/-- The depth of node n. -/
def dep (l : List Node) (n : Int) : Int := depthF l (l.length + 1) n (0 : Nat)
def nodeAt (l : List Node) (n : Int) : Node := (l[(n - 1).toNat]?).getD default
theorem nodeAt_of {l : List Node} {k : Nat} {x : Node} (h : l[k]? = some x) : nodeAt l ((k + 1 : Nat) : Int) = x := by
  unfold nodeAt
  rw [show (((k + 1 : Nat) : Int) - 1).toNat = k by omega, h]; rfl
theorem depthF_ge {l : List Node} : ∀ (f : Nat) (n : Int) (d : Nat), depthF l f n d ≠ 0 → (d : Int) ≤ depthF l f n d
  | 0, _, _, h => (h rfl).elim
  | f + 1, n, d, h => by
    unfold depthF at h ⊢
    split
    · exact Int.le_refl _
    · rename_i h0
      rw [if_neg h0] at h
      split
      · rename_i h1
        rw [if_pos h1] at h
        have := depthF_ge f _ _ h
        omega
      · rename_i h1
        rw [if_neg h1] at h
        exact (h rfl).elim
theorem depthF_shift {l : List Node} : ∀ (f : Nat) (n : Int) (d : Nat), depthF l f n (d + 1) ≠ 0 → depthF l f n (d + 1) = depthF l f n d + 1
  | 0, _, _, h => (h rfl).elim
  | f + 1, n, d, h => by
    unfold depthF at h ⊢
    split
    · rfl
    · rename_i h0
      rw [if_neg h0] at h
      split
      · rename_i h1
        rw [if_pos h1] at h
        exact depthF_shift f _ _ h
      · rename_i h1
        rw [if_neg h1] at h
        exact (h rfl).elim
theorem depthF_fuel {l : List Node} : ∀ (f : Nat) (n : Int) (d : Nat), depthF l f n d ≠ 0 → depthF l (f + 1) n d = depthF l f n d
  | 0, _, _, h => (h rfl).elim
  | f + 1, n, d, h => by
    unfold depthF at h
    show (if n = 0 then (d : Int) else if inB n 1 l.length then depthF l (f + 1) _ _ else 0) = (if n = 0 then (d : Int) else if inB n 1 l.length then depthF l f _ _ else 0)
    split
    · rfl
    · rename_i h0
      rw [if_neg h0] at h
      split
      · rename_i h1
        rw [if_pos h1] at h
        exact depthF_fuel f _ _ h
      · rfl
theorem depthF_far {l : List Node} {f : Nat} {n : Int} {d : Nat} (h0 : n ≠ 0) (h : depthF l f n d ≠ 0) : ((d + 1 : Nat) : Int) ≤ depthF l f n d := by
  cases f with
  | zero => exact (h rfl).elim
  | succ f =>
    unfold depthF at h ⊢
    rw [if_neg h0] at h ⊢
    split
    · rename_i h1
      rw [if_pos h1] at h
      exact depthF_ge f _ _ h
    · rename_i h1
      rw [if_neg h1] at h
      exact (h rfl).elim
theorem dep_root {l : List Node} {k : Nat} {x : Node} (hx : l[k]? = some x) (h0 : x.up = 0) (hl : 0 < l.length) : dep l ((k + 1 : Nat) : Int) = 1 := by
  have e := depthF_up (l := l) (d := 0) (by omega) hx
  rw [h0] at e
  have e2 := depthF_zero (l := l) (d := 0 + 1) (by omega)
  rw [Nat.sub_zero] at e
  unfold dep
  exact e.trans (e2.trans rfl)
theorem dep_up {l : List Node} {k : Nat} {x : Node} (hx : l[k]? = some x) (h0 : x.up ≠ 0) (hd : dep l ((k + 1 : Nat) : Int) ≠ 0) : dep l ((k + 1 : Nat) : Int) = dep l x.up + 1 := by
  have e := depthF_up (l := l) (d := 0) (by omega) hx
  rw [Nat.sub_zero] at e
  unfold dep at hd ⊢
  have e' : depthF l (l.length + 1) ((k + 1 : Nat) : Int) (0 : Nat) = depthF l l.length x.up 1 := e
  rw [e'] at hd ⊢
  have hs : depthF l l.length x.up 1 = depthF l l.length x.up 0 + 1 := depthF_shift _ _ 0 hd
  have hfar := depthF_far h0 hd
  rw [hs]
  have hne : depthF l l.length x.up 0 ≠ 0 := by omega
  rw [depthF_fuel _ _ _ hne]

section
variable {l : List Node} (hv : treeOk l = true)
include hv
theorem ok_len : l.length ≤ 12 := (treeOk_iff.1 hv).1
theorem ok_node {k : Nat} {x : Node} (hx : l[k]? = some x) : styleOk x.style = true ∧ (1 ≤ dep l ((k + 1 : Nat) : Int) ∧ dep l ((k + 1 : Nat) : Int) ≤ 4) ∧ (∀ y ∈ x.kids, kidOk l k y = true) ∧ upOk l k x = true ∧ tabOk x = true := by
  have h := (treeOk_iff.1 hv).2 k x hx
  unfold nodeOk inB at h
  simp only [Bool.and_eq_true, decide_eq_true_eq, List.all_eq_true] at h
  obtain ⟨⟨⟨⟨h1, h2⟩, h3⟩, h4⟩, h5⟩ := h
  refine ⟨h1, ?_, h3, h4, h5⟩
  unfold dep
  omega
/-- A child of a node: where it is, and that it knows its node; it is one level below. -/
theorem ok_kid {k : Nat} {x : Node} (hx : l[k]? = some x) {y : Int} (hy : y ∈ x.kids) : ∃ (ky : Nat) (z : Node), y = ((ky + 1 : Nat) : Int) ∧ l[ky]? = some z ∧ z.up = ((k + 1 : Nat) : Int) ∧ dep l y = dep l ((k + 1 : Nat) : Int) + 1 := by
  obtain ⟨_, _, h3, _, _⟩ := ok_node hv hx
  have hk := h3 y hy
  unfold kidOk at hk
  rw [Bool.and_eq_true] at hk
  obtain ⟨ky, rfl, hky⟩ := inB_node hk.1
  have hz := List.getElem?_eq_getElem hky
  generalize l[ky] = z at hz
  have hu : z.up = ((k + 1 : Nat) : Int) := by
    have := hk.2
    rw [show (((ky + 1 : Nat) : Int) - 1).toNat = ky by omega, hz] at this
    simpa using this
  have hd := (ok_node hv hz).2.1
  refine ⟨ky, z, rfl, hz, hu, ?_⟩
  rw [dep_up hz (by omega) (by omega), hu]
theorem ok_count {k : Nat} {x : Node} (hx : l[k]? = some x) {y : Int} (hy : y ∈ x.kids) : x.kids.count y = 1 := by
  obtain ⟨ky, z, rfl, hz, hu, _⟩ := ok_kid hv hx hy
  obtain ⟨_, _, _, h4, _⟩ := ok_node hv hz
  rw [upOk_at hu hx] at h4
  simpa using h4
omit hv in
theorem nodup_len : ∀ (N : Nat) (xs : List Int), (∀ a, xs.count a ≤ 1) → (∀ x ∈ xs, 1 ≤ x ∧ x ≤ (N : Int)) → xs.length ≤ N
  | 0, xs, _, h => by
    cases xs with
    | nil => simp
    | cons x xs => have := h x List.mem_cons_self; omega
  | N + 1, xs, hc, h => by
    have ih := nodup_len N (xs.filter fun x => !decide (x = ((N + 1 : Nat) : Int))) (fun a => by
      have h1 := hc a
      have h2 : (xs.filter fun x => !decide (x = ((N + 1 : Nat) : Int))).count a ≤ xs.count a := List.Sublist.count_le a List.filter_sublist
      omega) (fun x hx => by
      obtain ⟨hx1, hx2⟩ := List.mem_filter.1 hx
      have := h x hx1
      simp at hx2
      omega)
    have h3 := List.length_eq_countP_add_countP (fun x => decide (x = ((N + 1 : Nat) : Int))) (l := xs)
    have h4 : xs.countP (fun x => decide (x = ((N + 1 : Nat) : Int))) ≤ 1 := by
      have := hc ((N + 1 : Nat) : Int)
      unfold List.count at this
      have e : (fun x : Int => decide (x = ((N + 1 : Nat) : Int))) = fun x => x == ((N + 1 : Nat) : Int) := by
        funext x
        rw [Bool.eq_iff_iff]
        simp
      rw [e]; exact this
    have h5 : xs.countP (fun x => decide ¬ (decide (x = ((N + 1 : Nat) : Int))) = true) = (xs.filter fun x => !decide (x = ((N + 1 : Nat) : Int))).length := by
      rw [List.countP_eq_length_filter]
      congr 1
      apply List.filter_congr
      intro x _
      simp
    omega
theorem ok_kids_len {k : Nat} {x : Node} (hx : l[k]? = some x) : x.kids.length ≤ 12 := by
  refine nodup_len 12 x.kids (fun a => ?_) (fun y hy => ?_)
  · by_cases ha : a ∈ x.kids
    · rw [ok_count hv hx ha]; omega
    · rw [List.count_eq_zero.2 ha]; omega
  · obtain ⟨ky, z, rfl, hz, _, _⟩ := ok_kid hv hx hy
    have := (List.getElem?_eq_some_iff.1 hz).1
    have := ok_len hv
    omega
end
/-- A node and all below it. -/
def under (l : List Node) : Nat → Int → List Int
  | 0, n => [n]
  | f + 1, n => n :: ((nodeAt l n).kids.map (under l f)).flatten
end Go.Proofs.Ythffgbhphjkdeaa
namespace Go.Proofs.Ythffgbhphjkdeaa
open Go.RowKit
set_option linter.unusedVariables false
set_option linter.unusedSimpArgs false

theorem inB_eq {n a b : Int} : inB n a b = true ↔ a ≤ n ∧ n ≤ b := by simp [inB]
theorem node_get {l : List Node} {n : Int} (h : inB n 1 l.length = true) : ∃ (k : Nat) (x : Node), n = ((k + 1 : Nat) : Int) ∧ k < l.length ∧ l[k]? = some x ∧ nodeAt l n = x := by
  obtain ⟨k, rfl, hk⟩ := inB_node h
  have hx := List.getElem?_eq_getElem hk
  exact ⟨k, _, rfl, hk, hx, nodeAt_of hx⟩

/-! ### Depths told by a function -/
/-- d tells the depths of the tree's nodes. -/
structure Deep (l : List Node) (d : Int → Nat) : Prop where
  root : ∀ n, inB n 1 l.length = true → (nodeAt l n).up = 0 → d n = 1
  next : ∀ n, inB n 1 l.length = true → (nodeAt l n).up ≠ 0 → inB (nodeAt l n).up 1 l.length = true ∧ d n = d (nodeAt l n).up + 1 ∧ 1 ≤ d (nodeAt l n).up
theorem Deep.pos {l : List Node} {d : Int → Nat} (h : Deep l d) {n : Int} (hn : inB n 1 l.length = true) : 1 ≤ d n := by
  by_cases h0 : (nodeAt l n).up = 0
  · rw [h.root n hn h0]; exact Nat.le_refl _
  · have := (h.next n hn h0).2.1; omega
/-- The nodes above a node, itself among them. -/
def chain (l : List Node) : Nat → Int → List Int
  | 0, _ => []
  | f + 1, n => n :: chain l f (nodeAt l n).up
theorem chain_mem {l : List Node} {d : Int → Nat} (h : Deep l d) : ∀ (f : Nat) (n : Int), inB n 1 l.length = true → d n = f → ∀ y ∈ chain l f n, inB y 1 l.length = true ∧ d y ≤ f
  | 0, n, hn, hd, y, hy => by cases hy
  | f + 1, n, hn, hd, y, hy => by
    unfold chain at hy
    rcases List.mem_cons.1 hy with rfl | hy
    · exact ⟨hn, by omega⟩
    · by_cases h0 : (nodeAt l n).up = 0
      · have := h.root n hn h0
        obtain rfl : f = 0 := by omega
        cases hy
      · obtain ⟨h1, h2, h3⟩ := h.next n hn h0
        have := chain_mem h f _ h1 (by omega) y hy
        exact ⟨this.1, by omega⟩
theorem chain_len {l : List Node} : ∀ (f : Nat) (n : Int), (chain l f n).length = f
  | 0, _ => rfl
  | f + 1, n => by unfold chain; rw [List.length_cons, chain_len f]
theorem chain_count {l : List Node} {d : Int → Nat} (h : Deep l d) : ∀ (f : Nat) (n : Int), inB n 1 l.length = true → d n = f → ∀ a, (chain l f n).count a ≤ 1
  | 0, n, hn, hd, a => by simp [chain]
  | f + 1, n, hn, hd, a => by
    unfold chain
    rw [List.count_cons]
    by_cases h0 : (nodeAt l n).up = 0
    · have := h.root n hn h0
      obtain rfl : f = 0 := by omega
      simp only [chain, List.count_nil]
      split <;> omega
    · obtain ⟨h1, h2, h3⟩ := h.next n hn h0
      have ih := chain_count h f _ h1 (by omega) a
      by_cases e : n = a
      · subst e
        have : n ∉ chain l f (nodeAt l n).up := fun hm => by
          have := (chain_mem h f _ h1 (by omega) n hm).2
          omega
        rw [List.count_eq_zero.2 this]
        simp
      · have e' : (n == a) = false := by simpa using e
        rw [e']
        simpa using ih
theorem Deep.le {l : List Node} {d : Int → Nat} (h : Deep l d) {n : Int} (hn : inB n 1 l.length = true) : d n ≤ l.length := by
  have := nodup_len l.length (chain l (d n) n) (chain_count h _ n hn rfl) fun x hx => inB_eq.1 (chain_mem h _ n hn rfl x hx).1
  rwa [chain_len] at this
theorem depthF_deep {l : List Node} {d : Int → Nat} (h : Deep l d) : ∀ (f : Nat) (n : Int) (k : Nat), inB n 1 l.length = true → d n < f → depthF l f n k = ((k + d n : Nat) : Int)
  | 0, n, k, hn, hd => by omega
  | f + 1, n, k, hn, hd => by
    have hn' := inB_eq.1 hn
    unfold depthF
    rw [if_neg (by omega), if_pos hn]
    show depthF l f (nodeAt l n).up (k + 1) = _
    by_cases h0 : (nodeAt l n).up = 0
    · have h1 := h.root n hn h0
      obtain ⟨g, rfl⟩ : ∃ g, f = g + 1 := ⟨f - 1, by omega⟩
      rw [h0, h1]
      unfold depthF
      rw [if_pos rfl]
    · obtain ⟨h1, h2, h3⟩ := h.next n hn h0
      rw [depthF_deep h f _ (k + 1) h1 (by omega), h2]
      congr 1
      omega
theorem Deep.dep {l : List Node} {d : Int → Nat} (h : Deep l d) {n : Int} (hn : inB n 1 l.length = true) : dep l n = (d n : Int) := by
  have := h.le hn
  unfold Go.Proofs.Ythffgbhphjkdeaa.dep
  rw [depthF_deep h _ n 0 hn (by omega), Nat.zero_add]
/-- A valid tree has such depths. -/
theorem ok_deep {l : List Node} (hv : treeOk l = true) : Deep l (fun n => (dep l n).toNat) where
  root := fun n hn h0 => by
    obtain ⟨k, x, rfl, hk, hx, e⟩ := node_get hn
    rw [e] at h0
    rw [dep_root hx h0 (by omega)]; rfl
  next := fun n hn h0 => by
    obtain ⟨k, x, rfl, hk, hx, e⟩ := node_get hn
    rw [e] at h0 ⊢
    have hd := (ok_node hv hx).2.1
    obtain ⟨ku, hu, hku⟩ := depth_up hx (inB_eq.2 hd) h0
    have hub : inB x.up 1 l.length = true := by rw [hu]; exact inB_true (by omega) (by omega)
    have hu2 := List.getElem?_eq_getElem hku
    have hd2 := (ok_node hv hu2).2.1
    rw [← hu] at hd2
    have := dep_up hx h0 (by omega)
    exact ⟨hub, by omega, by omega⟩
theorem ok_dep {l : List Node} (hv : treeOk l = true) {n : Int} (hn : inB n 1 l.length = true) : 1 ≤ dep l n ∧ dep l n ≤ 4 ∧ dep l n ≤ l.length := by
  obtain ⟨k, x, rfl, hk, hx, e⟩ := node_get hn
  have hd := (ok_node hv hx).2.1
  have := (ok_deep hv).le hn
  exact ⟨hd.1, hd.2, by omega⟩

/-! ### Who is under whom -/
/-- top is above n, within f steps. -/
def isUnderF (l : List Node) : Nat → Int → Int → Bool
  | 0, _, _ => false
  | f + 1, n, top => decide ((nodeAt l n).up ≠ 0) && (decide ((nodeAt l n).up = top) || isUnderF l f (nodeAt l n).up top)
def isUnder (l : List Node) (n top : Int) : Bool := inB top 1 l.length && inB n 1 l.length && isUnderF l 5 n top
theorem isUnderF_le {l : List Node} {d : Int → Nat} (h : Deep l d) : ∀ (f g : Nat) (n top : Int), inB n 1 l.length = true → d n ≤ f → d n ≤ g → isUnderF l f n top = isUnderF l g n top
  | 0, _, n, top, hn, h1, _ => by have := h.pos hn; omega
  | _, 0, n, top, hn, _, h1 => by have := h.pos hn; omega
  | f + 1, g + 1, n, top, hn, h1, h2 => by
    unfold isUnderF
    by_cases h0 : (nodeAt l n).up = 0
    · simp [h0]
    · obtain ⟨h3, h4, h5⟩ := h.next n hn h0
      rw [isUnderF_le h f g _ top h3 (by omega) (by omega)]
/-- One step up. -/
theorem isUnder_up {l : List Node} (hv : treeOk l = true) {n top : Int} (hn : inB n 1 l.length = true) (ht : inB top 1 l.length = true) (h0 : (nodeAt l n).up ≠ 0) :
    isUnder l n top = (decide ((nodeAt l n).up = top) || isUnder l (nodeAt l n).up top) := by
  have hd := ok_deep hv
  obtain ⟨h1, h2, h3⟩ := hd.next n hn h0
  have := ok_dep hv hn
  have := ok_dep hv h1
  unfold isUnder
  rw [hn, ht, h1]
  show isUnderF l 5 n top = (_ || isUnderF l 5 _ top)
  rw [isUnderF_le hd 5 4 (nodeAt l n).up top h1 (by omega) (by omega)]
  show (decide _ && (_ || _)) = _
  rw [decide_eq_true h0, Bool.true_and]
theorem isUnder_root {l : List Node} {n top : Int} (h0 : (nodeAt l n).up = 0) : isUnder l n top = false := by
  unfold isUnder
  show (_ && isUnderF l (4 + 1) n top) = false
  unfold isUnderF
  simp [h0]
theorem isUnder_out {l : List Node} {n top : Int} (h0 : inB top 1 l.length = false) : isUnder l n top = false := by
  unfold isUnder; rw [h0]; rfl
theorem isUnder_out2 {l : List Node} {n top : Int} (h0 : inB n 1 l.length = false) : isUnder l n top = false := by
  unfold isUnder; rw [h0]; simp

/-! ### The operations -/
def addNode (l : List Node) (s : Style) : List Node × Int :=
  if treeOk l && styleOk s && decide (l.length < 12) then (l ++ [⟨0, [], s, false, []⟩], l.length + 1) else (l, 0)
/-- The child put in. -/
def putKid (l : List Node) (n kid : Int) (i : Nat) : List Node :=
  (l.set (n - 1).toNat { nodeAt l n with kids := (nodeAt l n).kids.take i ++ [kid] ++ (nodeAt l n).kids.drop i }).set (kid - 1).toNat { nodeAt l kid with up := n }
def insertKid (l : List Node) (n kid i : Int) : List Node × Int :=
  if !treeOk l || !inB n 1 l.length || !inB kid 1 l.length then (l, 1)
  else if decide (kid = n) || isUnder l n kid then (l, 2)
  else if decide ((nodeAt l kid).up ≠ 0) || !inB i 0 (nodeAt l n).kids.length then (l, 3)
  else if (nodeAt l n).measured then (l, 6)
  else if treeOk (putKid l n kid i.toNat) then (putKid l n kid i.toNat, 0) else (l, 7)
/-- The child taken out. -/
def takeKid (l : List Node) (n kid : Int) : List Node :=
  (l.set (n - 1).toNat { nodeAt l n with kids := (nodeAt l n).kids.filter fun k => decide (k ≠ kid) }).set (kid - 1).toNat { nodeAt l kid with up := 0 }
def removeKid (l : List Node) (n kid : Int) : List Node × Int :=
  if !treeOk l || !inB n 1 l.length || !inB kid 1 l.length then (l, 1)
  else if decide ((nodeAt l kid).up ≠ n) then (l, 3)
  else (takeKid l n kid, 0)
def putStyle (l : List Node) (n : Int) (s : Style) : List Node := l.set (n - 1).toNat { nodeAt l n with style := s }
def setStyle (l : List Node) (n : Int) (s : Style) : List Node × Int :=
  if !treeOk l || !inB n 1 l.length then (l, 1) else if !styleOk s then (l, 4) else (putStyle l n s, 0)
def putTable (l : List Node) (n : Int) (r : List Rule) : List Node := l.set (n - 1).toNat { nodeAt l n with measured := decide (r ≠ []), rules := r }
def setTable (l : List Node) (n : Int) (r : List Rule) : List Node × Int :=
  if !treeOk l || !inB n 1 l.length then (l, 1)
  else if decide (r ≠ []) && (!tableOk r || decide ((nodeAt l n).kids ≠ [])) then (l, 6)
  else (putTable l n r, 0)

/-! ### Nodes of a tree that was changed at one place -/
theorem nodeAt_set_self {l : List Node} {n : Int} {x : Node} (hn : inB n 1 l.length = true) : nodeAt (l.set (n - 1).toNat x) n = x := by
  obtain ⟨k, y, rfl, hk, hx, e⟩ := node_get hn
  rw [show (((k + 1 : Nat) : Int) - 1).toNat = k by omega]
  exact nodeAt_of (by rw [List.getElem?_set_self hk])
theorem nodeAt_set_ne {l : List Node} {n m : Int} {x : Node} (hn : inB n 1 l.length = true) (hm : inB m 1 l.length = true) (h : m ≠ n) : nodeAt (l.set (n - 1).toNat x) m = nodeAt l m := by
  obtain ⟨k, y, rfl, hk, hx, e⟩ := node_get hn
  obtain ⟨j, z, rfl, hj, hz, e2⟩ := node_get hm
  rw [show (((k + 1 : Nat) : Int) - 1).toNat = k by omega, e2]
  exact nodeAt_of (by rw [List.getElem?_set_ne (by omega)]; exact hz)

/-! ### Validity by nodes -/
def nodeOkN (l : List Node) (n : Int) : Bool := nodeOk l (n - 1).toNat (nodeAt l n)
theorem treeOk_nodes {l : List Node} : treeOk l = true ↔ l.length ≤ 12 ∧ ∀ n, inB n 1 l.length = true → nodeOkN l n = true := by
  rw [treeOk_iff]
  refine and_congr_right fun _ => ⟨fun h n hn => ?_, fun h i x hx => ?_⟩
  · obtain ⟨k, x, rfl, hk, hx, e⟩ := node_get hn
    unfold nodeOkN
    rw [e, show (((k + 1 : Nat) : Int) - 1).toNat = k by omega]
    exact h k x hx
  · have hlt := (List.getElem?_eq_some_iff.1 hx).1
    have := h ((i + 1 : Nat) : Int) (inB_true (by omega) (by omega))
    unfold nodeOkN at this
    rwa [nodeAt_of hx, show (((i + 1 : Nat) : Int) - 1).toNat = i by omega] at this
/-- What a node's validity says. -/
structure NodeIs (l : List Node) (n : Int) : Prop where
  style : styleOk (nodeAt l n).style = true
  deep : 1 ≤ dep l n ∧ dep l n ≤ 4
  kids : ∀ y ∈ (nodeAt l n).kids, inB y 1 l.length = true ∧ (nodeAt l y).up = n
  up : (nodeAt l n).up = 0 ∨ (nodeAt l (nodeAt l n).up).kids.count n = 1
  tab : tabOk (nodeAt l n) = true
theorem nodeOkN_iff {l : List Node} {n : Int} (hn : inB n 1 l.length = true) : nodeOkN l n = true ↔ NodeIs l n := by
  obtain ⟨k, x, rfl, hk, hx, e⟩ := node_get hn
  unfold nodeOkN
  rw [show (((k + 1 : Nat) : Int) - 1).toNat = k by omega, e]
  unfold nodeOk
  simp only [Bool.and_eq_true, List.all_eq_true]
  have h4 : upOk l k x = true ↔ (x.up = 0 ∨ (nodeAt l x.up).kids.count ((k + 1 : Nat) : Int) = 1) := by
    unfold upOk nodeAt
    simp only [Bool.or_eq_true, decide_eq_true_eq]
  have h3 : ∀ y, kidOk l k y = true ↔ (inB y 1 l.length = true ∧ (nodeAt l y).up = ((k + 1 : Nat) : Int)) := fun y => by
    unfold kidOk nodeAt
    simp only [Bool.and_eq_true, decide_eq_true_eq]
  have h2 : inB (depthF l (l.length + 1) ((k + 1 : Nat) : Int) (0 : Nat)) 1 4 = true ↔ (1 ≤ dep l ((k + 1 : Nat) : Int) ∧ dep l ((k + 1 : Nat) : Int) ≤ 4) := inB_eq
  constructor
  · rintro ⟨⟨⟨⟨a, b⟩, c⟩, d⟩, f⟩
    exact ⟨by rw [e]; exact a, h2.1 b, fun y hy => (h3 y).1 (c y (by rw [e] at hy; exact hy)), by rw [e]; exact h4.1 d, by rw [e]; exact f⟩
  · rintro ⟨a, b, c, d, f⟩
    rw [e] at a c d f
    exact ⟨⟨⟨⟨a, h2.2 b⟩, fun y hy => (h3 y).2 (c y hy)⟩, h4.2 d⟩, f⟩
theorem ok_is {l : List Node} (hv : treeOk l = true) {n : Int} (hn : inB n 1 l.length = true) : NodeIs l n := (nodeOkN_iff hn).1 ((treeOk_nodes.1 hv).2 n hn)
theorem ok_of {l : List Node} (h12 : l.length ≤ 12) (h : ∀ n, inB n 1 l.length = true → NodeIs l n) : treeOk l = true := treeOk_nodes.2 ⟨h12, fun n hn => (nodeOkN_iff hn).2 (h n hn)⟩
/-- Who is a child knows it; and the other way round. -/
theorem ok_mem {l : List Node} (hv : treeOk l = true) {n kid : Int} (hn : inB n 1 l.length = true) (hk : inB kid 1 l.length = true) : kid ∈ (nodeAt l n).kids ↔ (nodeAt l kid).up = n := by
  constructor
  · exact fun h => ((ok_is hv hn).kids kid h).2
  · intro h
    have hn' := inB_eq.1 hn
    rcases (ok_is hv hk).up with h0 | h1
    · omega
    · rw [h] at h1
      exact List.count_pos_iff.1 (by omega)
end Go.Proofs.Ythffgbhphjkdeaa
namespace Go.Proofs.Ythffgbhphjkdeaa
open Go.RowKit

/-- Only block g may turn, from the cells c to the cells c'. -/
def TP (g T : Nat) (c c' : List Value) (w w' : World) : Prop := Mod (fun k => k = g ∧ w.heap[k]? = some (.cells c.toArray T (0, 0)) ∧ w'.heap[k]? = some (.cells c'.toArray T (0, 0))) w w'
structure Near (W : World) (R : Rg W) (L : List Blk) (O : List Own) (E : List Res) (g : Nat) : Prop where
  new : R.q g ∨ W.heap.size ≤ g
  blk : ∀ b ∈ L, b.g ≠ g
  own : ∀ o ∈ O, o.v.ownBlock ≠ some g
  res : ∀ F ∈ E, ¬ F.foot g
/-- Block g holds c', told of operation ks. -/
def PV (g T : Nat) (c' : List Value) (_ : Nat → Value) (w : World) (_ : Value) : Prop := w.heap[g]? = some (.cells c'.toArray T (0, 0))
section
variable {P : Program} {n : Nat} {W : World} {R : Rg W} {L : List Blk} {O : List Own} {E : List Res} {w w' : World} {g T : Nat} {c c' : List Value}
theorem PV.keep {x : Nat → Value} {v : Value} (h : PV g T c' x w v) (hm : TP g T c c' w w') : PV g T c' x w' v := by
  unfold PV at *
  by_cases hs : g = g ∧ w.heap[g]? = some (.cells c.toArray T (0, 0)) ∧ w'.heap[g]? = some (.cells c'.toArray T (0, 0))
  · exact hs.2.2
  · rw [hm.block _ (Array.getElem?_eq_some_iff.1 h).1 hs]
    exact h
theorem Loc.erase {i : Nat} (h : Loc W R L O E w) : Loc W R (L.eraseIdx i) O E w where
  mod := h.mod
  inv := h.inv
  blk := fun b hb => h.blk b (List.mem_of_mem_eraseIdx hb)
  apart := h.apart.sublist (List.eraseIdx_sublist ..)
  own := fun o ho => ⟨(h.own o ho).1, fun b hb => (h.own o ho).2 b (List.mem_of_mem_eraseIdx hb)⟩
  ownApart := h.ownApart
  res := fun F hF => ⟨(h.res F hF).1, (h.res F hF).2.1, fun b hb => (h.res F hF).2.2.1 b (List.mem_of_mem_eraseIdx hb), (h.res F hF).2.2.2⟩
  resNew := h.resNew
  resApart := h.resApart
theorem Loc.near {i : Nat} (h : Loc W R L O E w) (hi : L[i]? = some ⟨g, c, T⟩) : Near W R (L.eraseIdx i) O E g := by
  have hm : (⟨g, c, T⟩ : Blk) ∈ L := List.mem_iff_getElem?.2 ⟨i, hi⟩
  refine ⟨(h.blk _ hm).1, fun b hb => ?_, fun o ho => (h.own o ho).2 _ hm, fun F hF => (h.res F hF).2.2.1 _ hm⟩
  obtain ⟨j, hj, hb⟩ := List.mem_eraseIdx_iff_getElem?.1 hb
  exact fun e => (pairwise_ne_of (fun _ _ h e => h e.symm) h.apart hb hi hj) e
theorem Loc.keepP (hf : Near W R L O E g) (h : Loc W R L O E w) {S : Nat → Prop} (hS : ∀ k, S k → k = g) (hm : Mod S w w') : Loc W R L O E w' :=
  h.frame hm (fun k hk hs => by have := hS k hs; subst this; rcases hf.new with h1 | h1; exact h1; omega) (fun b hb hs => hf.blk b hb (hS _ hs)) (fun o ho k hk hs => by have := hS k hs; subst this; exact hf.own o ho hk) (fun F hF k hk hs => by have := hS k hs; subst this; exact hf.res F hF hk)
theorem Loc.addP (hf : Near W R L O E g) (h : Loc W R L O E w) (hb : w.heap[g]? = some (.cells c'.toArray T (0, 0))) : Loc W R (⟨g, c', T⟩ :: L) O E w where
  mod := h.mod
  inv := h.inv
  blk := fun b hbm => by
    rcases List.mem_cons.1 hbm with rfl | hbm
    · exact ⟨hf.new, hb⟩
    · exact h.blk b hbm
  apart := List.pairwise_cons.2 ⟨fun b hbm e => hf.blk b hbm e.symm, h.apart⟩
  own := fun o ho => ⟨(h.own o ho).1, fun b hbm e => by
    rcases List.mem_cons.1 hbm with rfl | hbm
    · exact hf.own o ho e
    · exact (h.own o ho).2 b hbm e⟩
  ownApart := h.ownApart
  res := fun F hF => ⟨(h.res F hF).1, (h.res F hF).2.1, fun b hbm f => by
    rcases List.mem_cons.1 hbm with rfl | hbm
    · exact hf.res F hF f
    · exact (h.res F hF).2.2.1 b hbm f, (h.res F hF).2.2.2⟩
  resNew := h.resNew
  resApart := h.resApart
/-- Block g holds c or c'. -/
def Either (g T : Nat) (c c' : List Value) (w : World) : Prop := w.heap[g]? = some (.cells c.toArray T (0, 0)) ∨ w.heap[g]? = some (.cells c'.toArray T (0, 0))
theorem Either.keep (h : Either g T c c' w) (hm : Mod (fun _ => False) w w') : Either g T c c' w' := by
  rcases h with h | h
  · exact .inl (hm.blk h (fun f => f))
  · exact .inr (hm.blk h (fun f => f))
structure SXp (P : Program) (n : Nat) (W : World) (R : Rg W) (ops : Array Oper) (L : List Blk) (O : List Own) (E : List Res) (g T : Nat) (c c' : List Value) (k : Nat) (U : List (Nat × ((Nat → Value) → World → Value → Prop))) (f : List (Nat × Value)) (l : List Oper) (Q : Exit → Act → World → Prop) : Prop where
  run : ∀ F : Act, Fr n f F → RS P ops (TP g T c c') (fun w => Loc W R L O E w ∧ Either g T c c' w) Q k l (fun _ => F) U
end
section
variable {P : Program} {n : Nat} {W : World} {R : Rg W} {L L' : List Blk} {O : List Own} {E : List Res} {U : List (Nat × ((Nat → Value) → World → Value → Prop))} {f : List (Nat × Value)} {Q : Exit → Act → World → Prop} {ops : Array Oper} {rest : List Oper} {k g T : Nat} {c c' : List Value}
theorem SX.drawnP {id : Nat} {l : List Oper} (i : Nat) (c' : List Value) (hi : L[i]? = some ⟨g, c, T⟩) (hL : L.eraseIdx i = L') (hm : P.follows .mixedOrders = true) (hc : regOk l.toArray = true) (h : Near W R L' O E g → SXp P n W R l.toArray L' O E g T c c' 0 [] f l Q) : SX P n W R L O E f (.region id l.toArray true) Q := ⟨fun a w hf hl => by
  subst hL
  exact wp_region_rs (fun w' => Loc W R (L.eraseIdx i) O E w' ∧ Either g T c c' w') (TP g T c c') hm hc ⟨(hl.erase).keep ((Mod.refl _ w).drew), .inl ((hl.keep ((Mod.refl _ w).drew)).blk _ (List.mem_iff_getElem?.2 ⟨i, hi⟩)).2⟩ ((h (hl.near hi)).run _ hf)⟩
theorem SXp.v {o : Oper} {v : Value} {d : Nat} (hr : OpW P n W R L O E f o v) (hdst : o.dst = some d) (hw : wantO ops f o = some true) (hd : Nat.blt d n = true) (h : SXp P n W R ops L O E g T c c' (k + 1) U ((d, v) :: f) rest Q) : SXp P n W R ops L O E g T c c' k U f (o :: rest) Q := ⟨fun F hF =>
  RS.val [] (fun _ => v) rfl (fun _ _ _ => rfl) (fun _ => wanted_of hF hw) (fun _ w hS _ => wp_never (hr.run _ w hF hS.1) fun _ _ ⟨h1, h2⟩ => ⟨h1, ⟨hS.1.keep h2, hS.2.keep h2⟩, h2.mono fun _ _ f => f.elim⟩) (by rw [hdst]; exact h.run _ (hF.put hd v))⟩
theorem SXp.no {o : Oper} {d : Nat} (hw : wantO ops f o = some false) (hdst : o.dst = some d) (hd : Nat.blt d n = true) (h : SXp P n W R ops L O E g T c c' (k + 1) U ((d, undef) :: f) rest Q) : SXp P n W R ops L O E g T c c' k U f (o :: rest) Q := ⟨fun F hF =>
  RS.skip (fun _ => wanted_of hF hw) (by rw [hdst]; exact h.run _ (hF.put hd undef))⟩
variable {d m o T' : Nat} {xo yo : Operand} {ty : TypeId} {pos : String} {af : Array Edge} {gd : Option (Nat × Bool)} {v : Value}
theorem SXp.skips {o : Oper} (hf : Near W R L O E g) (hw : wantO ops f o = some true) (hdst : o.dst = none)
    (hrun : ∀ a w, Fr n f a → Either g T c c' w → ∃ w', (execOp a.eval o).run P w = .ok .skip w' ∧ w'.heap[g]? = some (.cells c'.toArray T (0, 0)) ∧ Mod (fun k => k = g) w w')
    (h : SXp P n W R ops L O E g T c c' (k + 1) ((k, PV g T c') :: U) f rest Q) : SXp P n W R ops L O E g T c c' k U f (o :: rest) Q := ⟨fun F hF =>
  RS.newx [] (PV g T c') id (fun _ _ _ _ => rfl) rfl ⟨fun _ _ _ _ h hm => h.keep hm, fun _ _ _ _ _ h => h⟩ (fun _ => wanted_of hF hw) (fun x w hS _ => by
    obtain ⟨w', h1, h2, h3⟩ := hrun F w hF hS.2
    have hT : TP g T c c' w w' := by
      rcases hS.2 with hc | hc
      · exact h3.mono fun k _ e => by subst e; exact ⟨rfl, hc, h2⟩
      · exact ⟨h3.os, h3.tape, h3.output, h3.size, fun k hk hn => by
          by_cases e : k = g
          · subst e; rw [h2, hc]
          · exact h3.block k hk e⟩
    unfold Oper.wp
    rw [h1, Oper.upon_skip, hdst]
    exact ⟨undef, rfl, h2, ⟨Loc.keepP hf hS.1 (fun k hk => hk) h3, .inr h2⟩, hT⟩) (by rw [hdst]; exact h.run _ hF)⟩
theorem SXp.store [TOne P T'] (hf : Near W R L O E g) (hw : wantO ops f ⟨none, .store T' xo yo, ty, pos, af, gd⟩ = some true) (hx : evO f xo = some (.pointer (some ⟨g, o, none⟩))) (hy : evO f yo = some v) (ho : Nat.blt o c.length = true) (hv : v.oneCell' = true) (hc : c.set o v = c')
    (h : SXp P n W R ops L O E g T c c' (k + 1) ((k, PV g T c') :: U) f rest Q) : SXp P n W R ops L O E g T c c' k U f (⟨none, .store T' xo yo, ty, pos, af, gd⟩ :: rest) Q :=
  SXp.skips hf hw rfl (fun a w hF hE => by
    have ho' : o < c.length := by simpa using ho
    have key : ∀ cs : List Value, cs.length = c.length → cs.set o v = c' → w.heap[g]? = some (.cells cs.toArray T (0, 0)) → ∃ w', (execOp a.eval ⟨none, .store T' xo yo, ty, pos, af, gd⟩).run P w = .ok .skip w' ∧ w'.heap[g]? = some (.cells c'.toArray T (0, 0)) ∧ Mod (fun k => k = g) w w' := fun cs hl hs hb => by
      obtain ⟨u, hu⟩ : ∃ u, cs[o]? = some u := ⟨_, List.getElem?_eq_getElem (by omega)⟩
      have h1 : w.cell? ⟨g, o, none⟩ = some u := by simp [World.cell?, hb, hu]
      have h2 : w.frozen? ⟨g, o, none⟩ = false := by simp [World.frozen?, hb]
      refine ⟨w.setCell ⟨g, o, none⟩ v, by simp [execOp, hF.eval hx, hF.eval hy, run_store1 h1 h2 hv], ?_, (Mod.refl _ w).setAt _ _ _⟩
      rw [← hs]
      simp [World.setCell, Array.getElem?_modify, hb]
    rcases hE with hE | hE
    · exact key c rfl hc hE
    · exact key c' (by rw [← hc, List.length_set]) (by rw [← hc, List.set_set]) hE) h
theorem over_over : ∀ (r c : List Value) (o : Nat), over (over c o r) o r = over c o r
  | [], _, _ => rfl
  | v :: r, c, o => by
    have comm : ∀ (r c : List Value) (p q : Nat) (u : Value), q < p → over (c.set q u) p r = (over c p r).set q u := by
      intro r
      induction r with
      | nil => intros; rfl
      | cons y r ih =>
        intro c p q u h
        simp only [over]
        rw [List.set_comm _ _ (by omega), ih _ _ _ _ (by omega)]
    simp only [over]
    rw [comm r _ _ _ _ (Nat.lt_succ_self o), comm r _ _ _ _ (Nat.lt_succ_self o), comm r _ _ _ _ (Nat.lt_succ_self o), over_over r, List.set_set]
theorem over_len : ∀ (r c : List Value) (o : Nat), (over c o r).length = c.length
  | [], _, _ => rfl
  | v :: r, c, o => by simp only [over]; rw [over_len, List.length_set]
theorem SXp.storeRow {r : List Value} [t : TRow P T' m] (hf : Near W R L O E g) (hw : wantO ops f ⟨none, .store T' xo yo, ty, pos, af, gd⟩ = some true) (hx : evO f xo = some (.pointer (some ⟨g, o, none⟩))) (hy : evO f yo = some (.agg r.toArray)) (ho : Nat.ble (o + m) c.length = true) (hm : r.length = m) (hv : r.all (·.oneCell') = true) (hc : over c o r = c')
    (h : SXp P n W R ops L O E g T c c' (k + 1) ((k, PV g T c') :: U) f rest Q) : SXp P n W R ops L O E g T c c' k U f (⟨none, .store T' xo yo, ty, pos, af, gd⟩ :: rest) Q :=
  SXp.skips hf hw rfl (fun a w hF hE => by
    have ho' : o + m ≤ c.length := Nat.le_of_ble_eq_true ho
    obtain ⟨_, h3⟩ := t.h
    have key : ∀ cs : List Value, cs.length = c.length → over cs o r = c' → w.heap[g]? = some (.cells cs.toArray T (0, 0)) → ∃ w', (execOp a.eval ⟨none, .store T' xo yo, ty, pos, af, gd⟩).run P w = .ok .skip w' ∧ w'.heap[g]? = some (.cells c'.toArray T (0, 0)) ∧ Mod (fun k => k = g) w w' := fun cs hl hs hb => by
      have e := run_store_row (P := P) (ty := T') h3 (w := w) (b := g) (o := o) (S := r.toArray) (by simp [hasRow, hb]; omega) (by simp [openRow, hb]) (by simpa using hm) (by simpa using hv)
      refine ⟨w.setCells g o r, by simp [execOp, hF.eval hx, hF.eval hy, e], ?_, mod_setCells g r o w⟩
      rw [setCells_heap g r o w _ _ _ hb, spl_over, hs]
    rcases hE with hE | hE
    · exact key c rfl hc hE
    · exact key c' (by rw [← hc, over_len]) (by rw [← hc, over_over]) hE) h
theorem SXp.nil (ks : Nat) (hf : Near W R L O E g) (hS : (ks, PV g T c') ∈ U) (h : SQ n W R (⟨g, c', T⟩ :: L) O E f .normal Q) : SXp P n W R ops L O E g T c c' k U f [] Q := ⟨fun F hF => RS.done fun x w hSw hU =>
  h.run _ w hF (Loc.addP hf hSw.1 (hU _ hS))⟩
theorem SXp.tail (ks : Nat) (hf : Near W R L O E g) (hS : (ks, PV g T c') ∈ U) (h : SXl P n W R ops (⟨g, c', T⟩ :: L) O E f rest Q) : SXp P n W R ops L O E g T c c' k U f [] (fun _ a w => wpList P ops Q rest a w) := ⟨fun F hF => RS.done fun x w hSw hU =>
  h.run _ w hF (Loc.addP hf hSw.1 (hU _ hS))⟩
end
end Go.Proofs.Ythffgbhphjkdeaa
namespace Go.Proofs.Ythffgbhphjkdeaa
open Go.RowKit
set_option linter.unusedVariables false
set_option linter.unusedSimpArgs false

/-- A new tree and a number. -/
def NewTreeC (r : List Node × Int) (w : World) (e : Ending) (w' : World) : Prop := NewO TreeQ (fun q => .tuple #[q.v, .int .i64 r.2]) TreeQ.os (fun q => bare q.ps = r.1) w e w'
theorem TreeQ.len {q : TreeQ} {l : List Node} (h : bare q.ps = l) : q.ps.length = l.length := by rw [← h, bare_len]

set_option maxRecDepth 100000 in
set_option maxHeartbeats 8000000 in
theorem saddNode_any (l : List Node) (s : Style) (o : Bool) (a : Option Addr) (c : Nat) (R : Nat → Prop) (w : World) (hlen : l.length ≤ 1048576) (hfit : ∀ x ∈ l, x.fits 1048576) (h : NodeSlice o R w a l) :
    Calls Try.prog 38 #[.agg #[.slice a l.length c], .agg s.cells.toArray] w (NewTreeC (addNode l s) w) := by
  have hT := fun w' (hm : Mod (fun _ => False) w w') => streeOk_any l o a c R w' hlen hfit (h.keep hm)
  have hS := fun w => sstyleC_any s w
  refine calls_sx Try.func38 rfl rfl (fun a h1 h2 h3 => ((Fr.nil h1 h2).arg (h3 1 _ rfl)).arg (h3 0 _ rfl)) ?_
  repeat (first | refine qan ?_ | refine qaj ?_ | refine qaf ?_ | refine qad ?_ | (refine qaw ?_; (refine qac (qal 2 rfl rfl rfl) rfl ?_ ?_ ?_); rfl; rfl) | (refine qam ?_; (refine qac (qah rfl) rfl ?_ ?_ ?_); rfl; rfl) | (refine qaH ?_; refine SXl.alloc ?_ ?_ (fun g => ?_); rfl; rfl) | (refine l_box ?_; refine qaM ?_ ?_ rfl rfl (fun g => ?_); rfl; rfl))
  refine qau ?_
  refine SXl.callO rfl rfl rfl (fun w' hl => scopyTree_any l o a c R w' hlen hfit (h.keep hl.mod)) (fun q hq => ?_)
  have hql := TreeQ.len hq
  rw [List.append_nil]
  cases hv : treeOk l
  · have e : addNode l s = (l, 0) := by simp [addNode, hv]
    rw [e]
    rw [hv] at hT
    repeat (first | refine qan ?_ | refine qaj ?_ | refine qaf ?_ | refine qad ?_ | refine qaq rfl ?_ | (refine qaS rfl rfl rfl ?_) | (refine qau ?_; (refine qac (qao rfl (fun w hl => hT _ hl.mod)) rfl ?_ ?_ ?_); rfl; rfl) | (refine qaw ?_; (first | refine qac (qal 0 rfl rfl rfl) rfl ?_ ?_ ?_ | refine qac (qal 3 rfl rfl rfl) rfl ?_ ?_ ?_); rfl; rfl) | (refine qap ?_; (refine qac (qak rfl) rfl ?_ ?_ ?_); rfl; rfl) | (refine qam ?_; (refine qac (qah rfl) rfl ?_ ?_ ?_); rfl; rfl) | (refine l_not ?_; (refine qac (OpW.not rfl) rfl ?_ ?_ ?_); rfl; rfl) | (refine qaG ?_; (refine qac (qay rfl rfl rfl) rfl ?_ ?_ ?_); rfl; rfl) | (refine qaH ?_; refine SXl.alloc ?_ ?_ (fun g => ?_); rfl; rfl) | (refine qas ?_; first | ((first | refine qag 0 ?_ rfl rfl rfl rfl rfl rfl ?_ | refine qag 1 ?_ rfl rfl rfl rfl rfl rfl ?_ | refine qag 2 ?_ rfl rfl rfl rfl rfl rfl ?_); rfl; simp only [List.set_cons_zero, List.set_cons_succ]) | ((first | refine qaa 0 ?_ rfl rfl rfl rfl rfl rfl rfl ?_ | refine qaa 1 ?_ rfl rfl rfl rfl rfl rfl rfl ?_ | refine qaa 2 ?_ rfl rfl rfl rfl rfl rfl rfl ?_); rfl; simp only [List.set_cons_zero, List.set_cons_succ]) | ((first | refine qab 0 ?_ rfl rfl rfl rfl rfl rfl rfl ?_ | refine qab 1 ?_ rfl rfl rfl rfl rfl rfl rfl ?_ | refine qab 2 ?_ rfl rfl rfl rfl rfl rfl rfl ?_); rfl; simp only [over, List.set_cons_zero, List.set_cons_succ])) | refine qaz ?_ | refine qax ?_)
    refine qaL 1 rfl rfl rfl rfl rfl (fun w' hl => ⟨q, rfl, hq, hl.owns, hl.mod⟩)
  cases hs : styleOk s
  · have e : addNode l s = (l, 0) := by simp [addNode, hs]
    rw [e]
    rw [hv] at hT
    rw [hs] at hS
    repeat (first | refine qan ?_ | refine qaj ?_ | refine qaf ?_ | refine qad ?_ | refine qaq rfl ?_ | (refine qaS rfl rfl rfl ?_) | (refine qau ?_; (first | refine qac (qao rfl (fun w hl => hT _ hl.mod)) rfl ?_ ?_ ?_ | refine qac (qao rfl (fun w hl => hS _)) rfl ?_ ?_ ?_); rfl; rfl) | (refine qaw ?_; (first | refine qac (qal 0 rfl rfl rfl) rfl ?_ ?_ ?_ | refine qac (qal 2 rfl rfl rfl) rfl ?_ ?_ ?_ | refine qac (qal 3 rfl rfl rfl) rfl ?_ ?_ ?_); rfl; rfl) | (refine qap ?_; (refine qac (qak rfl) rfl ?_ ?_ ?_); rfl; rfl) | (refine qam ?_; (refine qac (qah rfl) rfl ?_ ?_ ?_); rfl; rfl) | (refine l_not ?_; (refine qac (OpW.not rfl) rfl ?_ ?_ ?_); rfl; rfl) | (refine qaG ?_; (refine qac (qay rfl rfl rfl) rfl ?_ ?_ ?_); rfl; rfl) | (refine qaH ?_; refine SXl.alloc ?_ ?_ (fun g => ?_); rfl; rfl) | (refine qas ?_; first | ((first | refine qag 0 ?_ rfl rfl rfl rfl rfl rfl ?_ | refine qag 1 ?_ rfl rfl rfl rfl rfl rfl ?_ | refine qag 2 ?_ rfl rfl rfl rfl rfl rfl ?_); rfl; simp only [List.set_cons_zero, List.set_cons_succ]) | ((first | refine qaa 0 ?_ rfl rfl rfl rfl rfl rfl rfl ?_ | refine qaa 1 ?_ rfl rfl rfl rfl rfl rfl rfl ?_ | refine qaa 2 ?_ rfl rfl rfl rfl rfl rfl rfl ?_); rfl; simp only [List.set_cons_zero, List.set_cons_succ]) | ((first | refine qab 0 ?_ rfl rfl rfl rfl rfl rfl rfl ?_ | refine qab 1 ?_ rfl rfl rfl rfl rfl rfl rfl ?_ | refine qab 2 ?_ rfl rfl rfl rfl rfl rfl rfl ?_); rfl; simp only [over, List.set_cons_zero, List.set_cons_succ])) | refine qaz ?_ | refine qax ?_)
    refine qaL 1 rfl rfl rfl rfl rfl (fun w' hl => ⟨q, rfl, hq, hl.owns, hl.mod⟩)
  rw [hv] at hT
  rw [hs] at hS
  by_cases hn : l.length < 12
  rotate_left
  · have e : addNode l s = (l, 0) := by simp [addNode, hn]
    rw [e]
    repeat (first | refine qan ?_ | refine qaj ?_ | refine qaf ?_ | refine qad ?_ | refine qaq rfl ?_ | (refine qau ?_; (first | refine qac (qao rfl (fun w hl => hT _ hl.mod)) rfl ?_ ?_ ?_ | refine qac (qao rfl (fun w hl => hS _)) rfl ?_ ?_ ?_); rfl; rfl) | (refine qaw ?_; (first | refine qac (qav 3 rfl rfl rfl) rfl ?_ ?_ ?_ | refine qac (qal 0 rfl rfl rfl) rfl ?_ ?_ ?_ | refine qac (qal 2 rfl rfl rfl) rfl ?_ ?_ ?_ | refine qac (qal 3 rfl rfl rfl) rfl ?_ ?_ ?_); rfl; rfl) | (refine qai ?_; (refine qac (qae rfl) rfl ?_ ?_ ?_); rfl; rfl) | (refine qap ?_; (refine qac (qak rfl) rfl ?_ ?_ ?_); rfl; rfl) | (refine qam ?_; (refine qac (qah rfl) rfl ?_ ?_ ?_); rfl; rfl) | (refine l_len ?_; (refine qac (OpW.len rfl) rfl ?_ ?_ ?_); rfl; rfl) | (refine l_geq ?_; (refine qac (OpW.geqT rfl rfl (by omega)) rfl ?_ ?_ ?_); rfl; rfl) | (refine l_not ?_; (refine qac (OpW.not rfl) rfl ?_ ?_ ?_); rfl; rfl) | (refine qaG ?_; (refine qac (qay rfl rfl rfl) rfl ?_ ?_ ?_); rfl; rfl) | (refine qaH ?_; refine SXl.alloc ?_ ?_ (fun g => ?_); rfl; rfl) | (refine qas ?_; first | ((first | refine qag 0 ?_ rfl rfl rfl rfl rfl rfl ?_ | refine qag 1 ?_ rfl rfl rfl rfl rfl rfl ?_ | refine qag 2 ?_ rfl rfl rfl rfl rfl rfl ?_); rfl; simp only [List.set_cons_zero, List.set_cons_succ]) | ((first | refine qaa 0 ?_ rfl rfl rfl rfl rfl rfl rfl ?_ | refine qaa 1 ?_ rfl rfl rfl rfl rfl rfl rfl ?_ | refine qaa 2 ?_ rfl rfl rfl rfl rfl rfl rfl ?_); rfl; simp only [List.set_cons_zero, List.set_cons_succ]) | ((first | refine qab 0 ?_ rfl rfl rfl rfl rfl rfl rfl ?_ | refine qab 1 ?_ rfl rfl rfl rfl rfl rfl rfl ?_ | refine qab 2 ?_ rfl rfl rfl rfl rfl rfl rfl ?_); rfl; simp only [over, List.set_cons_zero, List.set_cons_succ])) | refine qaz ?_ | refine qax ?_)
    refine qaL 1 rfl rfl rfl rfl rfl (fun w' hl => ⟨q, rfl, hq, hl.owns, hl.mod⟩)
  have e : addNode l s = (l ++ [⟨0, [], s, false, []⟩], (l.length : Int) + 1) := by simp [addNode, hv, hs, hn]
  rw [e]
  repeat (first | refine qan ?_ | refine qaj ?_ | refine qaf ?_ | refine qad ?_ | refine qaC ?_ | refine qat rfl ?_ | (refine qau ?_; (first | refine qac (qao rfl (fun w hl => hT _ hl.mod)) rfl ?_ ?_ ?_ | refine qac (qao rfl (fun w hl => hS _)) rfl ?_ ?_ ?_); rfl; rfl) | (refine l_build ?_; (refine qac ((OpW.build (vals := [(2, .agg s.cells.toArray)]) (cells := rowP (⟨0, [], s, false, []⟩, ⟨none, 0, none, 0⟩)) rfl (by kernel_rfl))) rfl ?_ ?_ ?_); rfl; rfl) | (refine qaw ?_; (first | refine qac (qav 0 rfl rfl rfl) rfl ?_ ?_ ?_ | refine qac (qav 3 rfl rfl rfl) rfl ?_ ?_ ?_ | refine qac (qal 2 rfl rfl rfl) rfl ?_ ?_ ?_ | refine qac (qal 3 rfl rfl rfl) rfl ?_ ?_ ?_); rfl; rfl) | (refine qai ?_; (refine qac (qae rfl) rfl ?_ ?_ ?_); rfl; rfl) | (refine qap ?_; (refine qac (qak rfl) rfl ?_ ?_ ?_); rfl; rfl) | (refine l_len ?_; (refine qac (OpW.len rfl) rfl ?_ ?_ ?_); rfl; rfl) | (refine l_geq ?_; (refine qac (OpW.geqF rfl rfl (by omega)) rfl ?_ ?_ ?_); rfl; rfl) | (refine l_not ?_; (refine qac (OpW.not rfl) rfl ?_ ?_ ?_); rfl; rfl) | (refine qaG ?_; (refine qac (qay rfl rfl rfl) rfl ?_ ?_ ?_); rfl; rfl) | (refine qaH ?_; refine SXl.alloc ?_ ?_ (fun g => ?_); rfl; rfl) | (refine qas ?_; first | ((first | refine qag 0 ?_ rfl rfl rfl rfl rfl rfl ?_ | refine qag 1 ?_ rfl rfl rfl rfl rfl rfl ?_ | refine qag 2 ?_ rfl rfl rfl rfl rfl rfl ?_); rfl; simp only [List.set_cons_zero, List.set_cons_succ]) | ((first | refine qaa 0 ?_ rfl rfl rfl rfl rfl rfl rfl ?_ | refine qaa 1 ?_ rfl rfl rfl rfl rfl rfl rfl ?_ | refine qaa 2 ?_ rfl rfl rfl rfl rfl rfl rfl ?_); rfl; simp only [List.set_cons_zero, List.set_cons_succ]) | ((first | refine qab 0 ?_ rfl rfl rfl rfl rfl rfl rfl ?_ | refine qab 1 ?_ rfl rfl rfl rfl rfl rfl rfl ?_ | refine qab 2 ?_ rfl rfl rfl rfl rfl rfl rfl ?_); rfl; simp only [over, List.set_cons_zero, List.set_cons_succ])))
  refine qaR ?_
  refine SXl.litRow1 (sz := 64) (r := rowP (⟨0, [], s, false, []⟩, ⟨none, 0, none, 0⟩)) rfl rfl rfl rfl rfl (by decide) (by decide) (fun g5 => ?_)
  skip
  refine l_append ?_
  refine SXl.append 0 0 rfl rfl rfl rfl rfl rfl rfl (rowP_ones _) (by omega) (by omega) (fun a3 c3 => ?_)
  repeat (first | refine qan ?_ | refine qaj ?_ | refine qad ?_ | (refine qai ?_; (refine qac (qae rfl) rfl ?_ ?_ ?_); rfl; rfl) | (refine qas ?_; first | ((first | refine qag 0 ?_ rfl rfl rfl rfl rfl rfl ?_ | refine qag 1 ?_ rfl rfl rfl rfl rfl rfl ?_ | refine qag 2 ?_ rfl rfl rfl rfl rfl rfl ?_); rfl; simp only [List.set_cons_zero, List.set_cons_succ]) | ((first | refine qaa 0 ?_ rfl rfl rfl rfl rfl rfl rfl ?_ | refine qaa 1 ?_ rfl rfl rfl rfl rfl rfl rfl ?_ | refine qaa 2 ?_ rfl rfl rfl rfl rfl rfl rfl ?_); rfl; simp only [List.set_cons_zero, List.set_cons_succ]) | ((first | refine qab 0 ?_ rfl rfl rfl rfl rfl rfl rfl ?_ | refine qab 1 ?_ rfl rfl rfl rfl rfl rfl rfl ?_ | refine qab 2 ?_ rfl rfl rfl rfl rfl rfl rfl ?_); rfl; simp only [over, List.set_cons_zero, List.set_cons_succ])))
  refine SX.drawnP 2 [.slice a3 (q.ps.length + 1) c3] rfl rfl (by kernel_rfl) (by kernel_rfl) (fun hf => ?_)
  repeat (first | (refine SXp.storeRow hf rfl rfl rfl rfl rfl rfl rfl ?_) | (refine SXp.v (qav 1 rfl rfl rfl) rfl rfl rfl ?_) | (refine SXp.v (qal 1 rfl rfl rfl) rfl rfl rfl ?_) | (refine SXp.v (qae rfl) rfl rfl rfl ?_) | (refine SXp.v (qah rfl) rfl rfl rfl ?_) | (refine SXp.v (OpW.len rfl) rfl rfl rfl ?_))
  refine SXp.nil 4 hf (.head _) ?_
  repeat (first | refine qad ?_ | refine qaz ?_)
  refine qaL 0 rfl rfl rfl rfl rfl (fun w' hl => ⟨⟨q.ps ++ [(⟨0, [], s, false, []⟩, ⟨none, 0, none, 0⟩)], a3, c3⟩, ?_, ?_, ?_, hl.mod⟩)
  · show _ = Ending.returned (.tuple #[.agg [.slice a3 (q.ps ++ [_]).length c3].toArray, _])
    rw [List.length_append, hql]; rfl
  · show bare (q.ps ++ [_]) = _
    rw [bare, List.map_append, ← hq]; rfl
  · exact (((hl.ownNil 3 1).ownNil 152 3).treePush (x := (⟨0, [], s, false, []⟩, ⟨none, 0, none, 0⟩))).owns
end Go.Proofs.Ythffgbhphjkdeaa
namespace Go.Proofs.Ythffgbhphjkdeaa
open Go.RowKit
set_option linter.unusedVariables false
set_option linter.unusedSimpArgs false

section
variable {P : Program} {n : Nat} {W : World} {R : Rg W} {L : List Blk} {O : List Own} {E : List Res} {f : List (Nat × Value)} {Q : Exit → Act → World → Prop} {ops : Array Oper} {rest : List Oper} {T : TypeId} {xo yo : Operand} {ty : TypeId} {pos : String} {af : Array Edge} {gd : Option (Nat × Bool)} {g k j c : Nat} {ps : List PNode} {x y : PNode}
theorem SXl.know {φ : Prop} (hφ : ∀ w, Loc W R L O E w → φ) (h : φ → SXl P n W R ops L O E f rest Q) : SXl P n W R ops L O E f rest Q := ⟨fun a w hf hl => (h (hφ w hl)).run a w hf hl⟩
theorem SX.know {φ : Prop} {co : Code} (hφ : ∀ w, Loc W R L O E w → φ) (h : φ → SX P n W R L O E f co Q) : SX P n W R L O E f co Q := ⟨fun a w hf hl => (h (hφ w hl)).run a w hf hl⟩
theorem treeO_cell {a : Option Addr} {v : Value} (hx : ps[k]? = some x) (hj : j < 64) (hy : rowP y = (rowP x).set j v) (hk : kidsO y = kidsO x) (hr : rulesO y = rulesO x) :
    (⟨.slice a ps.length c, 86, 64, ps.length, ((ps.map rowP).flatten).set (k * 64 + j) v⟩ :: partsO ps : List Own) = treeO (ps.set k y) a c := by
  unfold treeO
  rw [nodes_set hx hj hy, partsO_same hx hk hr]
theorem treeO_over {a : Option Addr} {r : List Value} (hx : ps[k]? = some x) (hj : j + r.length ≤ 64) (hy : rowP y = over (rowP x) j r) (hk : kidsO y = kidsO x) (hr : rulesO y = rulesO x) :
    (⟨.slice a ps.length c, 86, 64, ps.length, over ((ps.map rowP).flatten) (k * 64 + j) r⟩ :: partsO ps : List Own) = treeO (ps.set k y) a c := by
  unfold treeO
  rw [nodes_over hx hj hy, partsO_same hx hk hr]
theorem rows_len (ps : List PNode) : ((ps.map rowP).flatten).length = ps.length * 64 := flat_length rowP_len ps
theorem row_low (hx : ps[k]? = some x) (hj : j < 64) : k * 64 + j < ((ps.map rowP).flatten).length := by
  rw [rows_len]
  have := (List.getElem?_eq_some_iff.1 hx).1
  omega
/-- One cell of a node is stored. -/
theorem SXl.treeCell {v : Value} [TOne P T] (y : PNode) (hx : ps[k]? = some x) (hw : wantO ops f ⟨none, .store T xo yo, ty, pos, af, gd⟩ = some true) (hp : evO f xo = some (.pointer (some ⟨g, 0 + k * 64 + j, none⟩))) (hv : evO f yo = some v) (h1 : v.oneCell' = true)
    (hj : j < 64) (hy : rowP y = (rowP x).set j v) (hk : kidsO y = kidsO x) (hr : rulesO y = rulesO x)
    (h : SXl P n W R ops L (treeO (ps.set k y) (some ⟨g, 0, none⟩) c ++ O) E f rest Q) : SXl P n W R ops L (treeO ps (some ⟨g, 0, none⟩) c ++ O) E f (⟨none, .store T xo yo, ty, pos, af, gd⟩ :: rest) Q := by
  rw [Nat.zero_add] at hp
  refine SXl.storeOwn (O' := treeO (ps.set k y) (some ⟨g, 0, none⟩) c ++ O) 0 hw hp hv rfl (row_low hx hj) h1 ?_ h
  rw [← treeO_cell hx hj hy hk hr]
  rfl
theorem SXl.treeRow {r : List Value} {m : Nat} [TRow P T m] (y : PNode) (hx : ps[k]? = some x) (hw : wantO ops f ⟨none, .store T xo yo, ty, pos, af, gd⟩ = some true) (hp : evO f xo = some (.pointer (some ⟨g, 0 + k * 64 + j, none⟩))) (hv : evO f yo = some (.agg r.toArray)) (h1 : r.all (·.oneCell') = true)
    (hm : r.length = m) (h0 : 0 < m) (hj : j + m ≤ 64) (hy : rowP y = over (rowP x) j r) (hk : kidsO y = kidsO x) (hr : rulesO y = rulesO x)
    (h : SXl P n W R ops L (treeO (ps.set k y) (some ⟨g, 0, none⟩) c ++ O) E f rest Q) : SXl P n W R ops L (treeO ps (some ⟨g, 0, none⟩) c ++ O) E f (⟨none, .store T xo yo, ty, pos, af, gd⟩ :: rest) Q := by
  rw [Nat.zero_add] at hp
  refine SXl.storeRowOwn (O' := treeO (ps.set k y) (some ⟨g, 0, none⟩) c ++ O) 0 hw hp hv rfl ?_ hm h1 ?_ h
  · have := (List.getElem?_eq_some_iff.1 hx).1
    rw [rows_len]
    omega
  · rw [← treeO_over hx (by omega) hy hk hr]
    rfl
theorem set_perm {α : Type} : ∀ {l : List α} {i : Nat} (hi : i < l.length) (a : α), (l.set i a).Perm (a :: l.eraseIdx i)
  | b :: l, 0, _, a => List.Perm.refl _
  | b :: l, i + 1, hi, a => by
    rw [List.set_cons_succ, List.eraseIdx_cons_succ]
    exact ((set_perm (l := l) (by simpa using hi) a).cons b).trans (List.Perm.swap _ _ _)
theorem own_put {o : Own} {O1 O2 : List Own} {i : Nat} {w : World} (h : Loc W R L (o :: O1 ++ O2) E w) (hi : i < O1.length) : Loc W R L (O1.set i o ++ O2) E w := by
  have h1 : (o :: O1.eraseIdx i ++ O2).Sublist (o :: O1 ++ O2) := ((List.eraseIdx_sublist O1 i).cons_cons o).append_right O2
  exact (h.ownSub h1).ownPerm ((set_perm hi o).append_right O2)
theorem partsO_len (l : List PNode) : (partsO l).length = 2 * l.length := by
  induction l with
  | nil => rfl
  | cons x l ih => rw [partsO_cons, List.length_cons, List.length_cons, List.length_cons, ih]; omega
/-- A node's rules are another list: its slice is the call's own, the node's cell is stored. -/
theorem SXl.treeRules {v : Value} {m : Nat} [TRow P T m] (y : PNode) (hx : ps[k]? = some x) (hw : wantO ops f ⟨none, .store T xo yo, ty, pos, af, gd⟩ = some true) (hp : evO f xo = some (.pointer (some ⟨g, 0 + k * 64 + 63, none⟩))) (hv : evO f yo = some (.agg [v].toArray)) (h1 : v.oneCell' = true) (hm : m = 1)
    (hy : rowP y = (rowP x).set 63 v) (hk : kidsO y = kidsO x)
    (h : SXl P n W R ops L (treeO (ps.set k y) (some ⟨g, 0, none⟩) c ++ O) E f rest Q) : SXl P n W R ops L (rulesO y :: treeO ps (some ⟨g, 0, none⟩) c ++ O) E f (⟨none, .store T xo yo, ty, pos, af, gd⟩ :: rest) Q := by
  rw [Nat.zero_add] at hp
  have hlt := (List.getElem?_eq_some_iff.1 hx).1
  subst hm
  refine SXl.storeRowOwn (O' := rulesO y :: ⟨.slice (some ⟨g, 0, none⟩) ps.length c, 86, 64, ps.length, ((ps.map rowP).flatten).set (k * 64 + 63) v⟩ :: (partsO ps ++ O)) 1 hw hp hv rfl ?_ rfl (by simp [h1]) rfl ⟨fun a w hf hl => h.run a w hf ?_⟩
  · rw [rows_len]
    show _ + 1 ≤ _
    omega
  · unfold treeO
    rw [nodes_set hx (by decide) hy, partsO_setRule hx hk]
    have h2 : Loc W R L (rulesO y :: (⟨.slice (some ⟨g, 0, none⟩) ps.length c, 86, 64, ps.length, ((ps.map rowP).flatten).set (k * 64 + 63) v⟩ :: partsO ps) ++ O) E w := hl
    have h3 := own_put (i := 2 * k + 1 + 1) h2 (by rw [List.length_cons, partsO_len]; omega)
    exact h3
/-- The same for a node's children. -/
theorem SXl.treeKids {v : Value} [TOne P T] (y : PNode) (hx : ps[k]? = some x) (hw : wantO ops f ⟨none, .store T xo yo, ty, pos, af, gd⟩ = some true) (hp : evO f xo = some (.pointer (some ⟨g, 0 + k * 64 + 1, none⟩))) (hv : evO f yo = some v) (h1 : v.oneCell' = true)
    (hy : rowP y = (rowP x).set 1 v) (hr : rulesO y = rulesO x)
    (h : SXl P n W R ops L (treeO (ps.set k y) (some ⟨g, 0, none⟩) c ++ O) E f rest Q) : SXl P n W R ops L (kidsO y :: treeO ps (some ⟨g, 0, none⟩) c ++ O) E f (⟨none, .store T xo yo, ty, pos, af, gd⟩ :: rest) Q := by
  rw [Nat.zero_add] at hp
  have hlt := (List.getElem?_eq_some_iff.1 hx).1
  refine SXl.storeOwn (O' := kidsO y :: ⟨.slice (some ⟨g, 0, none⟩) ps.length c, 86, 64, ps.length, ((ps.map rowP).flatten).set (k * 64 + 1) v⟩ :: (partsO ps ++ O)) 1 hw hp hv rfl ?_ h1 rfl ⟨fun a w hf hl => h.run a w hf ?_⟩
  · exact row_low hx (by decide)
  · unfold treeO
    rw [nodes_set hx (by decide) hy, partsO_setKid hx hr]
    have h2 : Loc W R L (kidsO y :: (⟨.slice (some ⟨g, 0, none⟩) ps.length c, 86, 64, ps.length, ((ps.map rowP).flatten).set (k * 64 + 1) v⟩ :: partsO ps) ++ O) E w := hl
    have h3 := own_put (i := 2 * k + 1) h2 (by rw [List.length_cons, partsO_len]; omega)
    exact h3
theorem SXl.treeCell0 {v : Value} [TOne P T] (y : PNode) (hx : ps[k]? = some x) (hw : wantO ops f ⟨none, .store T xo yo, ty, pos, af, gd⟩ = some true) (hp : evO f xo = some (.pointer (some ⟨g, 0 + k * 64 + j, none⟩))) (hv : evO f yo = some v) (h1 : v.oneCell' = true)
    (hj : j < 64) (hy : rowP y = (rowP x).set j v) (hk : kidsO y = kidsO x) (hr : rulesO y = rulesO x)
    (h : SXl P n W R ops L (treeO (ps.set k y) (some ⟨g, 0, none⟩) c) E f rest Q) : SXl P n W R ops L (treeO ps (some ⟨g, 0, none⟩) c) E f (⟨none, .store T xo yo, ty, pos, af, gd⟩ :: rest) Q := by
  rw [← List.append_nil (treeO ps _ _)]
  rw [← List.append_nil (treeO _ _ _)] at h
  exact SXl.treeCell y hx hw hp hv h1 hj hy hk hr h
theorem SXl.treeRow0 {r : List Value} {m : Nat} [TRow P T m] (y : PNode) (hx : ps[k]? = some x) (hw : wantO ops f ⟨none, .store T xo yo, ty, pos, af, gd⟩ = some true) (hp : evO f xo = some (.pointer (some ⟨g, 0 + k * 64 + j, none⟩))) (hv : evO f yo = some (.agg r.toArray)) (h1 : r.all (·.oneCell') = true)
    (hm : r.length = m) (h0 : 0 < m) (hj : j + m ≤ 64) (hy : rowP y = over (rowP x) j r) (hk : kidsO y = kidsO x) (hr : rulesO y = rulesO x)
    (h : SXl P n W R ops L (treeO (ps.set k y) (some ⟨g, 0, none⟩) c) E f rest Q) : SXl P n W R ops L (treeO ps (some ⟨g, 0, none⟩) c) E f (⟨none, .store T xo yo, ty, pos, af, gd⟩ :: rest) Q := by
  rw [← List.append_nil (treeO ps _ _)]
  rw [← List.append_nil (treeO _ _ _)] at h
  exact SXl.treeRow y hx hw hp hv h1 hm h0 hj hy hk hr h
theorem SXl.treeRules0 {v : Value} {m : Nat} [TRow P T m] (y : PNode) (hx : ps[k]? = some x) (hw : wantO ops f ⟨none, .store T xo yo, ty, pos, af, gd⟩ = some true) (hp : evO f xo = some (.pointer (some ⟨g, 0 + k * 64 + 63, none⟩))) (hv : evO f yo = some (.agg [v].toArray)) (h1 : v.oneCell' = true) (hm : m = 1)
    (hy : rowP y = (rowP x).set 63 v) (hk : kidsO y = kidsO x)
    (h : SXl P n W R ops L (treeO (ps.set k y) (some ⟨g, 0, none⟩) c) E f rest Q) : SXl P n W R ops L (rulesO y :: treeO ps (some ⟨g, 0, none⟩) c) E f (⟨none, .store T xo yo, ty, pos, af, gd⟩ :: rest) Q := by
  rw [← List.append_nil (rulesO y :: treeO ps _ _)]
  rw [← List.append_nil (treeO _ _ _)] at h
  exact SXl.treeRules y hx hw hp hv h1 hm hy hk h
theorem SXl.treeKids0 {v : Value} [TOne P T] (y : PNode) (hx : ps[k]? = some x) (hw : wantO ops f ⟨none, .store T xo yo, ty, pos, af, gd⟩ = some true) (hp : evO f xo = some (.pointer (some ⟨g, 0 + k * 64 + 1, none⟩))) (hv : evO f yo = some v) (h1 : v.oneCell' = true)
    (hy : rowP y = (rowP x).set 1 v) (hr : rulesO y = rulesO x)
    (h : SXl P n W R ops L (treeO (ps.set k y) (some ⟨g, 0, none⟩) c) E f rest Q) : SXl P n W R ops L (kidsO y :: treeO ps (some ⟨g, 0, none⟩) c) E f (⟨none, .store T xo yo, ty, pos, af, gd⟩ :: rest) Q := by
  rw [← List.append_nil (kidsO y :: treeO ps _ _)]
  rw [← List.append_nil (treeO _ _ _)] at h
  exact SXl.treeKids y hx hw hp hv h1 hy hr h
end
end Go.Proofs.Ythffgbhphjkdeaa
namespace Go.Proofs.Ythffgbhphjkdeaa
open Go.RowKit

section
variable {P : Program} {n : Nat} {W : World} {R : Rg W} {L : List Blk} {O : List Own} {E : List Res} {w w' : World} {B : Nat}
/-- A new fact on memory that lies beyond B. -/
theorem Loc.toldB (hf : Far W L O E B) (h : Loc W R L O E w) {F1 : Res} (h1 : F1.says w) (h2 : ∀ k, F1.foot k → B ≤ k ∧ k < w.heap.size) : Loc W R L O (F1 :: E) w where
  mod := h.mod
  inv := h.inv
  blk := h.blk
  apart := h.apart
  own := h.own
  ownApart := h.ownApart
  res := fun F hF => by
    rcases List.mem_cons.1 hF with rfl | hF
    · refine ⟨h1, fun k hk => (h2 k hk).2, fun b hb f => ?_, fun o ho k hk f => ?_⟩
      · have := hf.blk b hb; have := (h2 _ f).1; omega
      · have := hf.own o ho k hk; have := (h2 _ f).1; omega
    · exact h.res F hF
  resNew := fun F hF k hk => by
    rcases List.mem_cons.1 hF with rfl | hF
    · exact Nat.le_trans hf.old (h2 k hk).1
    · exact h.resNew F hF k hk
  resApart := List.pairwise_cons.2 ⟨fun G hG k hk hk' => by have := hf.res G hG k hk'; have := (h2 k hk).1; omega, h.resApart⟩
/-- What a call handed back, told. -/
def WV {ξ : Type} (v : ξ → Value) (F1 : ξ → Res) (B : Nat) (w : World) (u : Value) : Prop := ∃ p, u = v p ∧ (F1 p).says w ∧ ∀ k, (F1 p).foot k → B ≤ k ∧ k < w.heap.size
theorem WV.keep {ξ : Type} {v : ξ → Value} {F1 : ξ → Res} {u : Value} (h : WV v F1 B w u) (hm : Mod (fun _ => False) w w') : WV v F1 B w' u := by
  obtain ⟨p, h1, h2, h3⟩ := h
  exact ⟨p, h1, (F1 p).stable _ _ _ h2 hm (fun _ _ f => f), fun k hk => ⟨(h3 k hk).1, Nat.lt_of_lt_of_le (h3 k hk).2 hm.size⟩⟩
structure SXw (P : Program) (n : Nat) (W : World) (R : Rg W) (ops : Array Oper) (L : List Blk) (O : List Own) (E : List Res) (B : Nat) (k : Nat) (U : List (Nat × ((Nat → Value) → World → Value → Prop))) (f : (Nat → Value) → List (Nat × Value)) (l : List Oper) (Q : Exit → Act → World → Prop) : Prop where
  run : ∀ F : (Nat → Value) → Act, (∀ x, Fr n (f x) (F x)) → RS P ops (Mod fun _ => False) (fun w => Loc W R L O E w ∧ B ≤ w.heap.size) Q k l F U
end
section
variable {P : Program} {n : Nat} {W : World} {R : Rg W} {L : List Blk} {O : List Own} {E : List Res} {U : List (Nat × ((Nat → Value) → World → Value → Prop))} {f : (Nat → Value) → List (Nat × Value)} {f0 : List (Nat × Value)} {Q : Exit → Act → World → Prop} {ops : Array Oper} {rest : List Oper} {k B : Nat}
theorem SX.drawnWT {id : Nat} {l : List Oper} (m : Nat) (hm : P.follows .mixedOrders = true) (hc : regOkTo m l.toArray = true) (ht : tailOk l.toArray m = true) (h : ∀ B, Far W L O E B → SXw P n W R l.toArray L O E B 0 [] (fun _ => f0) (l.take m) (fun _ a w => wpList P l.toArray Q (l.drop m) a w)) : SX P n W R L O E f0 (.region id l.toArray true) Q := ⟨fun a w hf hl =>
  wp_region_rs_tail m (fun w' => Loc W R L O E w' ∧ w.heap.size ≤ w'.heap.size) (Mod fun _ => False) hm hc ht ⟨hl.keep ((Mod.refl _ w).drew), Nat.le_refl _⟩ ((h w.heap.size hl.far).run _ fun _ => hf)⟩
theorem SXw.v {o : Oper} {v : Value} {d : Nat} (hr : ∀ x, OpW P n W R L O E (f x) o v) (hdst : o.dst = some d) (hw : ∀ x, wantO ops (f x) o = some true) (hd : Nat.blt d n = true) (h : SXw P n W R ops L O E B (k + 1) U (fun x => (d, v) :: f x) rest Q) : SXw P n W R ops L O E B k U f (o :: rest) Q := ⟨fun F hF =>
  RS.val [] (fun _ => v) rfl (fun _ _ _ => rfl) (fun x => wanted_of (hF x) (hw x)) (fun x w hS _ => wp_never ((hr x).run _ w (hF x) hS.1) fun _ _ ⟨h1, h2⟩ => ⟨h1, ⟨hS.1.keep h2, Nat.le_trans hS.2 h2.size⟩, h2⟩) (by rw [hdst]; exact h.run _ fun x => (hF x).put hd v)⟩
theorem SXw.no {o : Oper} {d : Nat} (hw : ∀ x, wantO ops (f x) o = some false) (hdst : o.dst = some d) (hd : Nat.blt d n = true) (h : SXw P n W R ops L O E B (k + 1) U (fun x => (d, undef) :: f x) rest Q) : SXw P n W R ops L O E B k U f (o :: rest) Q := ⟨fun F hF =>
  RS.skip (fun x => wanted_of (hF x) (hw x)) (by rw [hdst]; exact h.run _ fun x => (hF x).put hd undef)⟩
variable {d : Nat} {fn : FuncId} {ars : List Operand} {aT : Array TypeId} {ty : TypeId} {pos : String} {af : Array Edge} {gd : Option (Nat × Bool)}
/-- A call that hands back new memory. -/
theorem SXw.new {ξ : Type} {args : List Value} [TFun P fn] (v : ξ → Value) (F1 : ξ → Res) (hw : ∀ x, wantO ops (f x) ⟨some d, .call ⟨.value (.func fn), ars.toArray, aT⟩, ty, pos, af, gd⟩ = some true) (hd : Nat.blt d n = true) (ha : ∀ x, evL (f x) ars = some args)
    (hc : ∀ w, Loc W R L O E w → Calls P fn args.toArray w (NewR ξ v F1 w))
    (h : SXw P n W R ops L O E B (k + 1) ((k, fun _ => WV v F1 B) :: U) (fun x => (d, x k) :: f x) rest Q) : SXw P n W R ops L O E B k U f (⟨some d, .call ⟨.value (.func fn), ars.toArray, aT⟩, ty, pos, af, gd⟩ :: rest) Q := ⟨fun F hF =>
  RS.new [] (WV v F1 B) id (fun _ _ _ => rfl) rfl (fun _ _ _ h hm => h.keep hm) (fun x => wanted_of (hF x) (hw x)) (fun x w hS _ => by
    unfold Oper.wp
    rw [run_callop (hF x) (ha x) w _ _, Oper.upon_enter]
    refine (hc w hS.1).mono ?_
    rintro e w' ⟨p, rfl, h1, h2⟩
    exact ⟨v p, rfl, ⟨p, rfl, h1.1, fun k hk => ⟨Nat.le_trans hS.2 (h1.2 k hk).1, (h1.2 k hk).2⟩⟩, ⟨hS.1.keep h2, Nat.le_trans hS.2 h2.size⟩, h2⟩) (h.run _ fun x => (hF x).put hd _)⟩
theorem SXw.nil (h : ∀ x, SQ n W R L O E (f x) .normal Q) : SXw P n W R ops L O E B k U f [] Q := ⟨fun F hF => RS.done fun x w hS _ => (h x).run (F x) w (hF x) hS.1⟩
theorem SXw.tail {ξ : Type} {v : ξ → Value} {F1 : ξ → Res} (ka : Nat) (hf : Far W L O E B) (hA : (ka, fun _ => WV v F1 B) ∈ U) (h : ∀ x p, x ka = v p → SXl P n W R ops L O (F1 p :: E) (f x) rest Q) : SXw P n W R ops L O E B k U f [] (fun _ a w => wpList P ops Q rest a w) := ⟨fun F hF => RS.done fun x w hS hU => by
  obtain ⟨p, h1, h2, h3⟩ := hU _ hA
  exact (h x p h1).run (F x) w (hF x) (Loc.toldB hf hS.1 h2 h3)⟩
end
end Go.Proofs.Ythffgbhphjkdeaa
namespace Go.Proofs.Ythffgbhphjkdeaa
open Go.RowKit
set_option linter.unusedVariables false
set_option linter.unusedSimpArgs false

def WO {ξ : Type} (v : ξ → Value) (os : ξ → List Own) (K : ξ → Prop) (B : Nat) (w : World) (u : Value) : Prop := ∃ p, u = v p ∧ K p ∧ Owns B w (os p)
theorem WO.keep {ξ : Type} {v : ξ → Value} {os : ξ → List Own} {K : ξ → Prop} {B : Nat} {w w' : World} {u : Value} (h : WO v os K B w u) (hm : Mod (fun _ => False) w w') : WO v os K B w' u := by
  obtain ⟨p, h1, h2, h3⟩ := h
  exact ⟨p, h1, h2, h3.keep hm⟩
section
variable {P : Program} {n : Nat} {W : World} {R : Rg W} {L : List Blk} {O : List Own} {E : List Res} {U : List (Nat × ((Nat → Value) → World → Value → Prop))} {f : (Nat → Value) → List (Nat × Value)} {f0 : List (Nat × Value)} {Q : Exit → Act → World → Prop} {ops : Array Oper} {rest : List Oper} {k B : Nat}
variable {d : Nat} {fn : FuncId} {ars : List Operand} {aT : Array TypeId} {ty : TypeId} {pos : String} {af : Array Edge} {gd : Option (Nat × Bool)}
/-- A call that hands back slices of the call's own. -/
theorem SXw.callO {ξ : Type} {args : List Value} [TFun P fn] (v : ξ → Value) (os : ξ → List Own) (K : ξ → Prop) (hw : ∀ x, wantO ops (f x) ⟨some d, .call ⟨.value (.func fn), ars.toArray, aT⟩, ty, pos, af, gd⟩ = some true) (hd : Nat.blt d n = true) (ha : ∀ x, evL (f x) ars = some args)
    (hc : ∀ w, Loc W R L O E w → Calls P fn args.toArray w (NewO ξ v os K w))
    (h : SXw P n W R ops L O E B (k + 1) ((k, fun _ => WO v os K B) :: U) (fun x => (d, x k) :: f x) rest Q) : SXw P n W R ops L O E B k U f (⟨some d, .call ⟨.value (.func fn), ars.toArray, aT⟩, ty, pos, af, gd⟩ :: rest) Q := ⟨fun F hF =>
  RS.new [] (WO v os K B) id (fun _ _ _ => rfl) rfl (fun _ _ _ h hm => h.keep hm) (fun x => wanted_of (hF x) (hw x)) (fun x w hS _ => by
    unfold Oper.wp
    rw [run_callop (hF x) (ha x) w _ _, Oper.upon_enter]
    refine (hc w hS.1).mono ?_
    rintro e w' ⟨p, rfl, h1, h2, h3⟩
    exact ⟨v p, rfl, ⟨p, rfl, h1, h2.low hS.2⟩, ⟨hS.1.keep h3, Nat.le_trans hS.2 h3.size⟩, h3⟩) (h.run _ fun x => (hF x).put hd _)⟩
/-- An empty slice literal. -/
theorem SXw.lit0 {T e sz by_ : Nat} {z : Value} [t : TSl P T e sz] [te : TEl P e sz by_ z] (hw : ∀ x, wantO ops (f x) ⟨some d, .buildSlice T 0 #[], ty, pos, af, gd⟩ = some true) (hd : Nat.blt d n = true)
    (h : SXw P n W R ops L O E B (k + 1) ((k, fun _ => WO (fun g : Nat => .slice (some ⟨g, 0, none⟩) 0 0) (fun g => [⟨.slice (some ⟨g, 0, none⟩) 0 0, e, sz, 0, []⟩]) (fun _ => True) B) :: U) (fun x => (d, x k) :: f x) rest Q) : SXw P n W R ops L O E B k U f (⟨some d, .buildSlice T 0 #[], ty, pos, af, gd⟩ :: rest) Q := ⟨fun F hF =>
  RS.new [] (WO (fun g : Nat => .slice (some ⟨g, 0, none⟩) 0 0) (fun g => [⟨.slice (some ⟨g, 0, none⟩) 0 0, e, sz, 0, []⟩]) (fun _ => True) B) id (fun _ _ _ => rfl) rfl (fun _ _ _ h hm => h.keep hm) (fun x => wanted_of (hF x) (hw x)) (fun x w hS _ => by
    obtain ⟨i0, q1, q2, q3, q4, q5, q6⟩ := te.h
    have hrun : (execOp (F x).eval ⟨some d, .buildSlice T 0 #[], ty, pos, af, gd⟩).run P w = .ok (.value (.slice (some ⟨w.heap.size, 0, none⟩) 0 0)) (w.alloc (.cells #[] e)) := by
      simp only [execOp, Instr.buildSlice, Sem.run_bind, run_underlying t.h.1, Result.andThen_ok, sizeOf, typeInfo, run_program, q1, Sem.run_pure, q3]
      have e4 : Array.map (fun _ : Nat => (default : Value)) (Array.range 0) = #[] := by simp
      simp [newRow, q1, q2, q3, e4, Instr.fill]
      done
    have hm : Mod (fun _ => False) w (w.alloc (.cells #[] e)) := (Mod.refl _ w).alloc _
    unfold Oper.wp
    rw [hrun, Oper.upon_value]
    refine ⟨_, rfl, ⟨w.heap.size, rfl, trivial, ⟨fun o ho => ?_, List.pairwise_singleton _ _⟩⟩, ⟨hS.1.keep hm, Nat.le_trans hS.2 hm.size⟩, hm⟩
    obtain rfl := List.mem_singleton.1 ho
    have := World.ownsRow_lit (base := B) (e := e) (size := sz) w #[] 0 hS.2 (by unfold maxLen; omega) (by simp)
    simpa using this) (h.run _ fun x => (hF x).put hd _)⟩
/-- append(an empty slice, a slice that is told), in the head: a copy. -/
theorem SXw.append0 {α : Type} {cs : α → List Value} {T e sz by_ c m : Nat} {z : Value} {b : Option Addr} {xo yo : Operand} {K : Nat → Prop} (ka : Nat) (l : List α) [t : TSl P T e sz] [te : TEl P e sz by_ z] (hw : ∀ x, wantO ops (f x) ⟨some d, .call ⟨.builtin .append, #[xo, yo], #[T, T]⟩, ty, pos, af, gd⟩ = some true) (hd : Nat.blt d n = true)
    (hus : ([ka].all fun i => (reach ops ops.size k).contains i) = true) (hA : (ka, fun _ => WO (fun g : Nat => .slice (some ⟨g, 0, none⟩) 0 0) (fun g => [⟨.slice (some ⟨g, 0, none⟩) 0 0, e, sz, 0, []⟩]) K B) ∈ U)
    (hx : ∀ x, evO (f x) xo = some (x ka)) (hy : ∀ x, evO (f x) yo = some (.slice b m c)) (hm : m = l.length) (hc : ∀ x, (cs x).length = sz) (hone : ∀ x, ∀ u ∈ cs x, u.oneCell' = true)
    (hs : ∀ w, Loc W R L O E w → ∃ S, SliceAt (Flat cs) sz S w b l) (h63 : l.length ≤ 9223372036854775807) (hby : l.length * by_ ≤ 140737488355328)
    (h : SXw P n W R ops L O E B (k + 1) ((k, fun _ => WO (fun q : Option Addr × Nat => .slice q.1 l.length q.2) (fun q => [⟨.slice q.1 l.length q.2, e, sz, l.length, (l.map cs).flatten⟩]) (fun _ => True) B) :: U) (fun x => (d, x k) :: f x) rest Q) : SXw P n W R ops L O E B k U f (⟨some d, .call ⟨.builtin .append, #[xo, yo], #[T, T]⟩, ty, pos, af, gd⟩ :: rest) Q := ⟨fun F hF =>
  RS.new [ka] (WO (fun q : Option Addr × Nat => .slice q.1 l.length q.2) (fun q => [⟨.slice q.1 l.length q.2, e, sz, l.length, (l.map cs).flatten⟩]) (fun _ => True) B) id (fun _ _ _ => rfl) hus (fun _ _ _ h hm => h.keep hm) (fun x => wanted_of (hF x) (hw x)) (fun x w hS hK => by
    subst hm
    obtain ⟨i0, q1, q2, q3, q4, q5, q6⟩ := te.h
    obtain ⟨g, hg, _, ho⟩ := hK _ hA List.mem_cons_self
    simp only at hg
    obtain ⟨S, hsl⟩ := hs w hS.1
    have H0 : Sized P T e sz by_ i0 z := ⟨t.h.1, q1, q2, q3, q4, q6⟩
    obtain ⟨a', c', w', hr, h1, h2⟩ := run_copy_own (P := P) H0 q5 hc hone ty (.inr ⟨g, rfl⟩) (ho.row _ List.mem_cons_self) hS.2 hsl (by unfold maxLen; exact h63) hby (c := c)
    have hrun : (execOp (F x).eval ⟨some d, .call ⟨.builtin .append, #[xo, yo], #[T, T]⟩, ty, pos, af, gd⟩).run P w = .ok (.value (.slice a' l.length c')) w' := by
      simp only [execOp, resolve, invoke, builtin, Sem.run_bind, Sem.run_pure, Result.andThen_ok, List.map_toArray, List.map_cons, List.map_nil, (hF x).eval (hx x), (hF x).eval (hy x), hg, hr]
    unfold Oper.wp
    rw [hrun, Oper.upon_value]
    refine ⟨_, rfl, ⟨(a', c'), rfl, trivial, ⟨fun o ho => ?_, List.pairwise_singleton _ _⟩⟩, ⟨hS.1.keep h1, Nat.le_trans hS.2 h1.size⟩, h1⟩
    obtain rfl := List.mem_singleton.1 ho
    exact h2) (h.run _ fun x => (hF x).put hd _)⟩
/-- A value that hangs on what earlier operations gave, of which something is told. -/
theorem SXw.vu {o : Oper} (us : List Nat) (v : (Nat → Value) → Value) (hus : (us.all fun i => (reach ops ops.size k).contains i) = true) (hv : ∀ x y : Nat → Value, (∀ i ∈ us, x i = y i) → v x = v y) (hr : ∀ x w, (∀ u ∈ U, u.1 ∈ us → u.2 x w (x u.1)) → OpW P n W R L O E (f x) o (v x)) (hdst : o.dst = some d) (hw : ∀ x, wantO ops (f x) o = some true) (hd : Nat.blt d n = true) (h : SXw P n W R ops L O E B (k + 1) U (fun x => (d, v x) :: f x) rest Q) : SXw P n W R ops L O E B k U f (o :: rest) Q := ⟨fun F hF =>
  RS.val us v hus hv (fun x => wanted_of (hF x) (hw x)) (fun x w hS hK => wp_never ((hr x w hK).run _ w (hF x) hS.1) fun _ _ ⟨h1, h2⟩ => ⟨h1, ⟨hS.1.keep h2, Nat.le_trans hS.2 h2.size⟩, h2⟩) (by rw [hdst]; exact h.run _ fun x => (hF x).put hd (v x))⟩
/-- A struct of one slice that operation ka handed back. -/
theorem SXw.build1 {T : TypeId} {len : Nat} {xo : Operand} {K : Option Addr × Nat → Prop} {os : Option Addr × Nat → List Own} (ka : Nat) (hus : ([ka].all fun i => (reach ops ops.size k).contains i) = true) (hA : (ka, fun _ => WO (fun q : Option Addr × Nat => .slice q.1 len q.2) os K B) ∈ U)
    (hw : ∀ x, wantO ops (f x) ⟨some d, .build T #[(0, xo)], ty, pos, af, gd⟩ = some true) (hd : Nat.blt d n = true) (hx : ∀ x, evO (f x) xo = some (x ka)) (hb : ∀ (a : Option Addr) (m c : Nat), P.built T [(0, .slice a m c)] = some #[.slice a m c])
    (h : SXw P n W R ops L O E B (k + 1) U (fun x => (d, .agg [x ka].toArray) :: f x) rest Q) : SXw P n W R ops L O E B k U f (⟨some d, .build T #[(0, xo)], ty, pos, af, gd⟩ :: rest) Q :=
  SXw.vu [ka] (fun x => .agg [x ka].toArray) hus (fun x y h => by rw [h ka List.mem_cons_self]) (fun x w hK => by
    obtain ⟨q, hq, _⟩ := hK _ hA List.mem_cons_self
    simp only at hq
    exact OpW.build (parts := [(0, xo)]) (vals := [(0, x ka)]) (cells := [x ka]) (by simp [evP, hx x]) (by rw [hq]; exact hb _ _ _)) rfl hw hd h
theorem SXw.tailO {ξ : Type} {v : ξ → Value} {os : ξ → List Own} {K : ξ → Prop} (ka : Nat) (hf : Far W L O E B) (hA : (ka, fun _ => WO v os K B) ∈ U) (h : ∀ x p, x ka = v p → K p → SXl P n W R ops L (os p ++ O) E (f x) rest Q) : SXw P n W R ops L O E B k U f [] (fun _ a w => wpList P ops Q rest a w) := ⟨fun F hF => RS.done fun x w hS hU => by
  obtain ⟨p, h1, h2, h3⟩ := hU _ hA
  exact (h x p h1 h2).run (F x) w (hF x) (hS.1.addOwns hf h3)⟩
end
end Go.Proofs.Ythffgbhphjkdeaa
namespace Go.Proofs.Ythffgbhphjkdeaa
open Go.RowKit
set_option linter.unusedVariables false
set_option linter.unusedSimpArgs false

theorem pnode_get {q : TreeQ} {l : List Node} {k : Nat} {x : Node} (hq : bare q.ps = l) (hx : l[k]? = some x) : ∃ p : NodeP, q.ps[k]? = some (x, p) := by
  subst hq
  cases h : q.ps[k]? with
  | none => simp [bare, h] at hx
  | some y =>
    simp [bare, h] at hx
    exact ⟨y.2, by rw [← hx]⟩
set_option maxRecDepth 100000 in
set_option maxHeartbeats 8000000 in
theorem ssetTable_any (l : List Node) (n : Int) (r : List Rule) (o : Bool) (a ra : Option Addr) (c rc : Nat) (R R2 : Nat → Prop) (w : World) (hlen : l.length ≤ 1048576) (hfit : ∀ x ∈ l, x.fits 1048576) (h : NodeSlice o R w a l) (hrl : r.length ≤ 1048576) (hr : SliceAt (Flat Rule.cells) 3 R2 w ra r) :
    Calls Try.prog 34 #[.agg #[.slice a l.length c], .int .i64 n, .agg #[.slice ra r.length rc]] w (NewTreeC (setTable l n r) w) := by
  have hT := fun w' (hm : Mod (fun _ => False) w w') => streeOk_any l o a c R w' hlen hfit (h.keep hm)
  have hS := fun w' (hm : Mod (fun _ => False) w w') => stableOk_any r ra rc R2 w' hrl (SliceAt.flatKeep hr hm)
  refine calls_sx Try.func34 rfl rfl (fun a h1 h2 h3 => (((Fr.nil h1 h2).arg (h3 2 _ rfl)).arg (h3 1 _ rfl)).arg (h3 0 _ rfl)) ?_
  repeat (first | refine qan ?_ | refine qaj ?_ | refine qaf ?_ | refine qad ?_ | (refine qaw ?_; (refine qac (qal 2 rfl rfl rfl) rfl ?_ ?_ ?_); rfl; rfl) | (refine qam ?_; (refine qac (qah rfl) rfl ?_ ?_ ?_); rfl; rfl) | (refine qaH ?_; refine SXl.alloc ?_ ?_ (fun g => ?_); rfl; rfl) | (refine l_box ?_; refine qaM ?_ ?_ rfl rfl (fun g => ?_); rfl; rfl))
  refine qau ?_
  refine SXl.callO rfl rfl rfl (fun w' hl => scopyTree_any l o a c R w' hlen hfit (h.keep hl.mod)) (fun q hq => ?_)
  have hql := TreeQ.len hq
  rw [List.append_nil]
  cases hv : treeOk l
  · have e : setTable l n r = (l, 1) := by simp [setTable, hv]
    rw [e]
    rw [hv] at hT
    repeat (first | refine qan ?_ | refine qaj ?_ | refine qaf ?_ | refine qad ?_ | refine qaq rfl ?_ | (refine qaS rfl rfl rfl ?_) | (refine qau ?_; (refine qac (qao rfl (fun w hl => hT _ hl.mod)) rfl ?_ ?_ ?_); rfl; rfl) | (refine qaw ?_; (first | refine qac (qal 0 rfl rfl rfl) rfl ?_ ?_ ?_ | refine qac (qal 3 rfl rfl rfl) rfl ?_ ?_ ?_); rfl; rfl) | (refine qap ?_; (refine qac (qak rfl) rfl ?_ ?_ ?_); rfl; rfl) | (refine qam ?_; (refine qac (qah rfl) rfl ?_ ?_ ?_); rfl; rfl) | (refine l_not ?_; (refine qac (OpW.not rfl) rfl ?_ ?_ ?_); rfl; rfl) | (refine qaG ?_; (refine qac (qay rfl rfl rfl) rfl ?_ ?_ ?_); rfl; rfl) | (refine qaH ?_; refine SXl.alloc ?_ ?_ (fun g => ?_); rfl; rfl) | (refine qas ?_; first | ((first | refine qag 0 ?_ rfl rfl rfl rfl rfl rfl ?_ | refine qag 1 ?_ rfl rfl rfl rfl rfl rfl ?_ | refine qag 2 ?_ rfl rfl rfl rfl rfl rfl ?_); rfl; simp only [List.set_cons_zero, List.set_cons_succ]) | ((first | refine qaa 0 ?_ rfl rfl rfl rfl rfl rfl rfl ?_ | refine qaa 1 ?_ rfl rfl rfl rfl rfl rfl rfl ?_ | refine qaa 2 ?_ rfl rfl rfl rfl rfl rfl rfl ?_); rfl; simp only [List.set_cons_zero, List.set_cons_succ]) | ((first | refine qab 0 ?_ rfl rfl rfl rfl rfl rfl rfl ?_ | refine qab 1 ?_ rfl rfl rfl rfl rfl rfl rfl ?_ | refine qab 2 ?_ rfl rfl rfl rfl rfl rfl rfl ?_); rfl; simp only [over, List.set_cons_zero, List.set_cons_succ])) | refine qaz ?_ | refine qax ?_)
    refine qaL 1 rfl rfl rfl rfl rfl (fun w' hl => ⟨q, rfl, hq, hl.owns, hl.mod⟩)
  rw [hv] at hT
  cases hn : inB n 1 l.length
  · have e : setTable l n r = (l, 1) := by simp [setTable, hn]
    rw [e]
    repeat (first | refine qan ?_ | refine qaj ?_ | refine qaf ?_ | refine qad ?_ | refine qaq rfl ?_ | (refine qau ?_; (first | refine qac (qao rfl (fun w hl => hT _ hl.mod)) rfl ?_ ?_ ?_ | refine qac (qao rfl (fun w hl => sisNode_any _ _ _ _ _)) rfl ?_ ?_ ?_); rfl; rfl) | (refine qaw ?_; (first | refine qac (qal 0 rfl rfl rfl) rfl ?_ ?_ ?_ | refine qac (qal 3 rfl rfl rfl) rfl ?_ ?_ ?_); rfl; rfl) | (refine qap ?_; (refine qac (qak rfl) rfl ?_ ?_ ?_); rfl; rfl) | (refine qam ?_; (refine qac (qah rfl) rfl ?_ ?_ ?_); rfl; rfl) | (refine l_not ?_; (refine qac (OpW.not rfl) rfl ?_ ?_ ?_); rfl; rfl) | (refine qaG ?_; (refine qac (qay rfl rfl rfl) rfl ?_ ?_ ?_); rfl; rfl) | (refine qaH ?_; refine SXl.alloc ?_ ?_ (fun g => ?_); rfl; rfl) | (refine qas ?_; first | ((first | refine qag 0 ?_ rfl rfl rfl rfl rfl rfl ?_ | refine qag 1 ?_ rfl rfl rfl rfl rfl rfl ?_ | refine qag 2 ?_ rfl rfl rfl rfl rfl rfl ?_); rfl; simp only [List.set_cons_zero, List.set_cons_succ]) | ((first | refine qaa 0 ?_ rfl rfl rfl rfl rfl rfl rfl ?_ | refine qaa 1 ?_ rfl rfl rfl rfl rfl rfl rfl ?_ | refine qaa 2 ?_ rfl rfl rfl rfl rfl rfl rfl ?_); rfl; simp only [List.set_cons_zero, List.set_cons_succ]) | ((first | refine qab 0 ?_ rfl rfl rfl rfl rfl rfl rfl ?_ | refine qab 1 ?_ rfl rfl rfl rfl rfl rfl rfl ?_ | refine qab 2 ?_ rfl rfl rfl rfl rfl rfl rfl ?_); rfl; simp only [over, List.set_cons_zero, List.set_cons_succ])) | (rw [hn]) | refine qaz ?_ | refine qax ?_)
    refine qaL 1 rfl rfl rfl rfl rfl (fun w' hl => ⟨q, rfl, hq, hl.owns, hl.mod⟩)
  obtain ⟨k, x, rfl, hk, hx, hnx⟩ := node_get hn
  obtain ⟨p, hp⟩ := pnode_get hq hx
  obtain ⟨b1, o1, x1, r1, rfl, hR1, hb1, hxk, hr1, hl1, hc1⟩ := h.get hk
  obtain rfl : x1 = x := Option.some.inj (hxk.out.symm.trans hx)
  obtain ⟨ka, kc, rra, rrc, rfl, hk1, ht1, _⟩ := hr1
  obtain ⟨ps, qa, qc⟩ := q
  simp only at hq hql hp
  refine SXl.know (fun w hl => tree_addr (l := ps) (a := qa) (c := qc) hl.owns (by omega)) (fun ⟨gt, hgt⟩ => ?_)
  subst hgt
  have hkp : k < ps.length := by omega
  by_cases hr0 : r.length = 0
  · have hre : r = [] := List.eq_nil_of_length_eq_zero hr0
    have e : setTable l ((k + 1 : Nat) : Int) r = (putTable l ((k + 1 : Nat) : Int) r, 0) := by simp only [setTable, hv, hn, hre]; rfl
    rw [e]
    repeat (first | refine qan ?_ | refine qaj ?_ | refine qaf ?_ | refine qad ?_ | refine qaC ?_ | refine qat rfl ?_ | (refine qaS rfl rfl rfl ?_) | (refine qau ?_; (first | refine qac (qao rfl (fun w hl => hT _ hl.mod)) rfl ?_ ?_ ?_ | refine qac (qao rfl (fun w hl => sisNode_any _ _ _ _ _)) rfl ?_ ?_ ?_); rfl; rfl) | (refine qaI ?_; (refine qac ((qaF (i := k) hkp rfl (congrArg (fun i : Int => some (Value.int .i64 i)) (by omega : ((k + 1 : Nat) : Int) - 1 = (k : Int))))) rfl ?_ ?_ ?_); rfl; rfl) | (refine qaw ?_; (first | refine qac (qav 0 rfl rfl rfl) rfl ?_ ?_ ?_ | refine qac (qav 2 rfl rfl rfl) rfl ?_ ?_ ?_ | refine qac (qal 3 rfl rfl rfl) rfl ?_ ?_ ?_); rfl; rfl) | (refine qai ?_; (refine qac (qae rfl) rfl ?_ ?_ ?_); rfl; rfl) | (refine qap ?_; (refine qac (qak rfl) rfl ?_ ?_ ?_); rfl; rfl) | (refine l_len ?_; (refine qac (OpW.len rfl) rfl ?_ ?_ ?_); rfl; rfl) | (refine l_gtr ?_; (refine qac (OpW.gtrF rfl rfl (by omega)) rfl ?_ ?_ ?_); rfl; rfl) | (refine l_not ?_; (refine qac (OpW.not rfl) rfl ?_ ?_ ?_); rfl; rfl) | (refine l_sub ?_; (refine qac (OpW.subi rfl rfl (by omega) (by omega)) rfl ?_ ?_ ?_); rfl; rfl) | (refine qaG ?_; (refine qac (qay rfl rfl rfl) rfl ?_ ?_ ?_); rfl; rfl) | (refine qaH ?_; refine SXl.alloc ?_ ?_ (fun g => ?_); rfl; rfl) | (refine qas ?_; first | ((first | refine qag 0 ?_ rfl rfl rfl rfl rfl rfl ?_ | refine qag 1 ?_ rfl rfl rfl rfl rfl rfl ?_ | refine qag 2 ?_ rfl rfl rfl rfl rfl rfl ?_); rfl; simp only [List.set_cons_zero, List.set_cons_succ]) | ((first | refine qaa 0 ?_ rfl rfl rfl rfl rfl rfl rfl ?_ | refine qaa 1 ?_ rfl rfl rfl rfl rfl rfl rfl ?_ | refine qaa 2 ?_ rfl rfl rfl rfl rfl rfl rfl ?_); rfl; simp only [List.set_cons_zero, List.set_cons_succ]) | ((first | refine qab 0 ?_ rfl rfl rfl rfl rfl rfl rfl ?_ | refine qab 1 ?_ rfl rfl rfl rfl rfl rfl rfl ?_ | refine qab 2 ?_ rfl rfl rfl rfl rfl rfl rfl ?_); rfl; simp only [over, List.set_cons_zero, List.set_cons_succ])) | (rw [hn]))
    refine SXl.treeCell0 (c := qc) ({ x1 with measured := false }, p) hp rfl rfl rfl rfl (by decide) rfl rfl rfl ?_
    repeat (first | refine qan ?_ | refine qaj ?_ | refine qad ?_)
    have hkp' : k < (ps.set k ({ x1 with measured := false }, p)).length := by rw [List.length_set]; exact hkp
    refine SX.drawnWT 9 (by kernel_rfl) (by kernel_rfl) (by kernel_rfl) (fun B hf => ?_)
    repeat (first | (refine SXw.lit0 (fun _ => rfl) rfl ?_) | (refine SXw.append0 (cs := Rule.cells) 4 r (fun _ => rfl) rfl (by kernel_rfl) (.head _) (fun _ => rfl) (fun _ => rfl) rfl (fun _ => rfl) rule_one1 (fun w hl => ⟨_, SliceAt.flatKeep hr hl.mod⟩) (by omega) (by omega) ?_) | (refine SXw.build1 7 (by kernel_rfl) (.head _) (fun _ => rfl) rfl (fun _ => rfl) (fun _ _ _ => by kernel_rfl) ?_) | (refine SXw.v (fun _ => (qav 0 rfl rfl rfl)) rfl (fun _ => rfl) rfl ?_) | (refine SXw.v (fun _ => (qav 2 rfl rfl rfl)) rfl (fun _ => rfl) rfl ?_) | (refine SXw.v (fun _ => (qae rfl)) rfl (fun _ => rfl) rfl ?_) | (refine SXw.v (fun _ => (qak rfl)) rfl (fun _ => rfl) rfl ?_) | (refine SXw.v (fun _ => (OpW.subi rfl rfl (by omega) (by omega))) rfl (fun _ => rfl) rfl ?_))
    refine SXw.tailO 7 hf (.head _) (fun xq pq hxq _ => ?_)
    simp only [hxq]
    repeat (first | (refine qaI ?_; (refine qac ((qaF (i := k) hkp rfl (congrArg (fun i : Int => some (Value.int .i64 i)) (by omega : ((k + 1 : Nat) : Int) - 1 = (k : Int))))) rfl ?_ ?_ ?_); rfl; rfl) | (refine qai ?_; (refine qac (qae rfl) rfl ?_ ?_ ?_); rfl; rfl))
    refine SXl.treeRules0 (c := qc) ({ x1 with measured := false, rules := r }, { p with ra := pq.1, rc := pq.2 }) (List.getElem?_set_self hkp) rfl rfl rfl rfl rfl rfl rfl ?_
    repeat (first | refine qan ?_ | refine qaj ?_ | refine qaf ?_ | refine qad ?_ | (refine qaw ?_; (refine qac (qal 0 rfl rfl rfl) rfl ?_ ?_ ?_); rfl; rfl) | (refine qam ?_; (refine qac (qah rfl) rfl ?_ ?_ ?_); rfl; rfl) | (refine qas ?_; first | ((first | refine qag 0 ?_ rfl rfl rfl rfl rfl rfl ?_ | refine qag 1 ?_ rfl rfl rfl rfl rfl rfl ?_ | refine qag 2 ?_ rfl rfl rfl rfl rfl rfl ?_); rfl; simp only [List.set_cons_zero, List.set_cons_succ]) | ((first | refine qaa 0 ?_ rfl rfl rfl rfl rfl rfl rfl ?_ | refine qaa 1 ?_ rfl rfl rfl rfl rfl rfl rfl ?_ | refine qaa 2 ?_ rfl rfl rfl rfl rfl rfl rfl ?_); rfl; simp only [List.set_cons_zero, List.set_cons_succ]) | ((first | refine qab 0 ?_ rfl rfl rfl rfl rfl rfl rfl ?_ | refine qab 1 ?_ rfl rfl rfl rfl rfl rfl rfl ?_ | refine qab 2 ?_ rfl rfl rfl rfl rfl rfl rfl ?_); rfl; simp only [over, List.set_cons_zero, List.set_cons_succ])) | refine qaz ?_)
    refine qaL 1 rfl rfl rfl rfl rfl (fun w' hl => ⟨⟨(ps.set k ({ x1 with measured := false }, p)).set k ({ x1 with measured := false, rules := r }, { p with ra := pq.1, rc := pq.2 }), some ⟨gt, 0, none⟩, qc⟩, ?_, ?_, hl.owns, hl.mod⟩)
    · simp [TreeQ.v, List.length_set]
    · show bare _ = putTable l _ r
      rw [bare_set, bare_set, hq, List.set_set]
      unfold putTable
      rw [hnx, show (((k + 1 : Nat) : Int) - 1).toNat = k by omega, hre]
      rfl
  · have hrne : r ≠ [] := fun e => hr0 (by rw [e]; rfl)
    cases ht : tableOk r
    · have e : setTable l ((k + 1 : Nat) : Int) r = (l, 6) := by simp only [setTable, hv, hn, ht, decide_eq_true hrne]; rfl
      rw [e]
      rw [ht] at hS
      repeat (first | refine qan ?_ | refine qaj ?_ | refine qaf ?_ | refine qad ?_ | refine qaC ?_ | refine qaq rfl ?_ | refine qat rfl ?_ | (refine qaS rfl rfl rfl ?_) | (refine qau ?_; (first | refine qac (qao rfl (fun w hl => hT _ hl.mod)) rfl ?_ ?_ ?_ | refine qac (qao rfl (fun w hl => sisNode_any _ _ _ _ _)) rfl ?_ ?_ ?_ | refine qac (qao rfl (fun w hl => hS _ hl.mod)) rfl ?_ ?_ ?_); rfl; rfl) | (refine qaw ?_; (first | refine qac (qav 2 rfl rfl rfl) rfl ?_ ?_ ?_ | refine qac (qal 0 rfl rfl rfl) rfl ?_ ?_ ?_ | refine qac (qal 2 rfl rfl rfl) rfl ?_ ?_ ?_ | refine qac (qal 3 rfl rfl rfl) rfl ?_ ?_ ?_); rfl; rfl) | (refine qai ?_; (refine qac (qae rfl) rfl ?_ ?_ ?_); rfl; rfl) | (refine qap ?_; (refine qac (qak rfl) rfl ?_ ?_ ?_); rfl; rfl) | (refine qam ?_; (refine qac (qah rfl) rfl ?_ ?_ ?_); rfl; rfl) | (refine l_len ?_; (refine qac (OpW.len rfl) rfl ?_ ?_ ?_); rfl; rfl) | (refine l_gtr ?_; (refine qac (OpW.gtrT rfl rfl (by omega)) rfl ?_ ?_ ?_); rfl; rfl) | (refine l_not ?_; (refine qac (OpW.not rfl) rfl ?_ ?_ ?_); rfl; rfl) | (refine qaG ?_; (refine qac (qay rfl rfl rfl) rfl ?_ ?_ ?_); rfl; rfl) | (refine qaH ?_; refine SXl.alloc ?_ ?_ (fun g => ?_); rfl; rfl) | (refine qas ?_; first | ((first | refine qag 0 ?_ rfl rfl rfl rfl rfl rfl ?_ | refine qag 1 ?_ rfl rfl rfl rfl rfl rfl ?_ | refine qag 2 ?_ rfl rfl rfl rfl rfl rfl ?_); rfl; simp only [List.set_cons_zero, List.set_cons_succ]) | ((first | refine qaa 0 ?_ rfl rfl rfl rfl rfl rfl rfl ?_ | refine qaa 1 ?_ rfl rfl rfl rfl rfl rfl rfl ?_ | refine qaa 2 ?_ rfl rfl rfl rfl rfl rfl rfl ?_); rfl; simp only [List.set_cons_zero, List.set_cons_succ]) | ((first | refine qab 0 ?_ rfl rfl rfl rfl rfl rfl rfl ?_ | refine qab 1 ?_ rfl rfl rfl rfl rfl rfl rfl ?_ | refine qab 2 ?_ rfl rfl rfl rfl rfl rfl rfl ?_); rfl; simp only [over, List.set_cons_zero, List.set_cons_succ])) | (rw [hn]) | refine qaz ?_ | refine qax ?_)
      refine qaL 1 rfl rfl rfl rfl rfl (fun w' hl => ⟨⟨ps, _, qc⟩, rfl, hq, hl.owns, hl.mod⟩)
    rw [ht] at hS
    by_cases hk0 : x1.kids.length = 0
    rotate_left
    · have hkne : x1.kids ≠ [] := fun e => hk0 (by rw [e]; rfl)
      have e : setTable l ((k + 1 : Nat) : Int) r = (l, 6) := by simp only [setTable, hv, hn, ht, decide_eq_true hrne, hnx, decide_eq_true hkne]; rfl
      rw [e]
      repeat (first | refine qan ?_ | refine qaj ?_ | refine qaf ?_ | refine qad ?_ | refine qaC ?_ | refine qaq rfl ?_ | refine qat rfl ?_ | (refine qau ?_; (first | refine qac (qao rfl (fun w hl => hT _ hl.mod)) rfl ?_ ?_ ?_ | refine qac (qao rfl (fun w hl => sisNode_any _ _ _ _ _)) rfl ?_ ?_ ?_ | refine qac (qao rfl (fun w hl => hS _ hl.mod)) rfl ?_ ?_ ?_ | refine qac (qao rfl (fun w hl => snode_any _ _ _ _ k _ _ _ _ _ _ _ _ _ w (by omega) hk (fun j v hv => hl.old (hc1 j v hv) (fun h => h)))) rfl ?_ ?_ ?_); rfl; rfl) | (refine l_field ?_; (refine qac (OpW.field rfl (nodeRow_a1 _ _ _ _ _ _ _ _ _)) rfl ?_ ?_ ?_); rfl; rfl) | (refine qaw ?_; (first | refine qac (qav 2 rfl rfl rfl) rfl ?_ ?_ ?_ | refine qac (qal 0 rfl rfl rfl) rfl ?_ ?_ ?_ | refine qac (qal 2 rfl rfl rfl) rfl ?_ ?_ ?_ | refine qac (qal 3 rfl rfl rfl) rfl ?_ ?_ ?_); rfl; rfl) | (refine qai ?_; (refine qac (qae rfl) rfl ?_ ?_ ?_); rfl; rfl) | (refine qap ?_; (refine qac (qak rfl) rfl ?_ ?_ ?_); rfl; rfl) | (refine qam ?_; (refine qac (qah rfl) rfl ?_ ?_ ?_); rfl; rfl) | (refine l_len ?_; (refine qac (OpW.len rfl) rfl ?_ ?_ ?_); rfl; rfl) | (refine l_gtr ?_; (refine qac (OpW.gtrT rfl rfl (by omega)) rfl ?_ ?_ ?_); rfl; rfl) | (refine l_not ?_; (refine qac (OpW.not rfl) rfl ?_ ?_ ?_); rfl; rfl) | (refine qaG ?_; (refine qac (qay rfl rfl rfl) rfl ?_ ?_ ?_); rfl; rfl) | (refine qaH ?_; refine SXl.alloc ?_ ?_ (fun g => ?_); rfl; rfl) | (refine qas ?_; first | ((first | refine qag 0 ?_ rfl rfl rfl rfl rfl rfl ?_ | refine qag 1 ?_ rfl rfl rfl rfl rfl rfl ?_ | refine qag 2 ?_ rfl rfl rfl rfl rfl rfl ?_); rfl; simp only [List.set_cons_zero, List.set_cons_succ]) | ((first | refine qaa 0 ?_ rfl rfl rfl rfl rfl rfl rfl ?_ | refine qaa 1 ?_ rfl rfl rfl rfl rfl rfl rfl ?_ | refine qaa 2 ?_ rfl rfl rfl rfl rfl rfl rfl ?_); rfl; simp only [List.set_cons_zero, List.set_cons_succ]) | ((first | refine qab 0 ?_ rfl rfl rfl rfl rfl rfl rfl ?_ | refine qab 1 ?_ rfl rfl rfl rfl rfl rfl rfl ?_ | refine qab 2 ?_ rfl rfl rfl rfl rfl rfl rfl ?_); rfl; simp only [over, List.set_cons_zero, List.set_cons_succ])) | (rw [hn]) | refine qaz ?_ | refine qax ?_)
      refine qaL 1 rfl rfl rfl rfl rfl (fun w' hl => ⟨⟨ps, _, qc⟩, rfl, hq, hl.owns, hl.mod⟩)
    have hke : x1.kids = [] := List.eq_nil_of_length_eq_zero hk0
    have e : setTable l ((k + 1 : Nat) : Int) r = (putTable l ((k + 1 : Nat) : Int) r, 0) := by simp only [setTable, hv, hn, ht, decide_eq_true hrne, hnx, hke]; rfl
    rw [e]
    repeat (first | refine qan ?_ | refine qaj ?_ | refine qaf ?_ | refine qad ?_ | refine qaC ?_ | refine qat rfl ?_ | (refine qau ?_; (first | refine qac (qao rfl (fun w hl => hT _ hl.mod)) rfl ?_ ?_ ?_ | refine qac (qao rfl (fun w hl => sisNode_any _ _ _ _ _)) rfl ?_ ?_ ?_ | refine qac (qao rfl (fun w hl => hS _ hl.mod)) rfl ?_ ?_ ?_ | refine qac (qao rfl (fun w hl => snode_any _ _ _ _ k _ _ _ _ _ _ _ _ _ w (by omega) hk (fun j v hv => hl.old (hc1 j v hv) (fun h => h)))) rfl ?_ ?_ ?_); rfl; rfl) | (refine l_field ?_; (refine qac (OpW.field rfl (nodeRow_a1 _ _ _ _ _ _ _ _ _)) rfl ?_ ?_ ?_); rfl; rfl) | (refine qaI ?_; (refine qac ((qaF (i := k) hkp rfl (congrArg (fun i : Int => some (Value.int .i64 i)) (by omega : ((k + 1 : Nat) : Int) - 1 = (k : Int))))) rfl ?_ ?_ ?_); rfl; rfl) | (refine qaw ?_; (first | refine qac (qav 0 rfl rfl rfl) rfl ?_ ?_ ?_ | refine qac (qav 2 rfl rfl rfl) rfl ?_ ?_ ?_ | refine qac (qal 2 rfl rfl rfl) rfl ?_ ?_ ?_ | refine qac (qal 3 rfl rfl rfl) rfl ?_ ?_ ?_); rfl; rfl) | (refine qai ?_; (refine qac (qae rfl) rfl ?_ ?_ ?_); rfl; rfl) | (refine qap ?_; (refine qac (qak rfl) rfl ?_ ?_ ?_); rfl; rfl) | (refine l_len ?_; (refine qac (OpW.len rfl) rfl ?_ ?_ ?_); rfl; rfl) | (refine l_gtr ?_; (first | refine qac (OpW.gtrT rfl rfl (by omega)) rfl ?_ ?_ ?_ | refine qac (OpW.gtrF rfl rfl (by omega)) rfl ?_ ?_ ?_); rfl; rfl) | (refine l_not ?_; (refine qac (OpW.not rfl) rfl ?_ ?_ ?_); rfl; rfl) | (refine l_sub ?_; (refine qac (OpW.subi rfl rfl (by omega) (by omega)) rfl ?_ ?_ ?_); rfl; rfl) | (refine qaG ?_; (refine qac (qay rfl rfl rfl) rfl ?_ ?_ ?_); rfl; rfl) | (refine qaH ?_; refine SXl.alloc ?_ ?_ (fun g => ?_); rfl; rfl) | (refine qas ?_; first | ((first | refine qag 0 ?_ rfl rfl rfl rfl rfl rfl ?_ | refine qag 1 ?_ rfl rfl rfl rfl rfl rfl ?_ | refine qag 2 ?_ rfl rfl rfl rfl rfl rfl ?_); rfl; simp only [List.set_cons_zero, List.set_cons_succ]) | ((first | refine qaa 0 ?_ rfl rfl rfl rfl rfl rfl rfl ?_ | refine qaa 1 ?_ rfl rfl rfl rfl rfl rfl rfl ?_ | refine qaa 2 ?_ rfl rfl rfl rfl rfl rfl rfl ?_); rfl; simp only [List.set_cons_zero, List.set_cons_succ]) | ((first | refine qab 0 ?_ rfl rfl rfl rfl rfl rfl rfl ?_ | refine qab 1 ?_ rfl rfl rfl rfl rfl rfl rfl ?_ | refine qab 2 ?_ rfl rfl rfl rfl rfl rfl rfl ?_); rfl; simp only [over, List.set_cons_zero, List.set_cons_succ])) | (rw [hn]))
    refine SXl.treeCell0 (c := qc) ({ x1 with measured := true }, p) hp rfl rfl rfl rfl (by decide) rfl rfl rfl ?_
    repeat (first | refine qan ?_ | refine qaj ?_ | refine qad ?_)
    have hkp' : k < (ps.set k ({ x1 with measured := true }, p)).length := by rw [List.length_set]; exact hkp
    refine SX.drawnWT 9 (by kernel_rfl) (by kernel_rfl) (by kernel_rfl) (fun B hf => ?_)
    repeat (first | (refine SXw.lit0 (fun _ => rfl) rfl ?_) | (refine SXw.append0 (cs := Rule.cells) 4 r (fun _ => rfl) rfl (by kernel_rfl) (.head _) (fun _ => rfl) (fun _ => rfl) rfl (fun _ => rfl) rule_one1 (fun w hl => ⟨_, SliceAt.flatKeep hr hl.mod⟩) (by omega) (by omega) ?_) | (refine SXw.build1 7 (by kernel_rfl) (.head _) (fun _ => rfl) rfl (fun _ => rfl) (fun _ _ _ => by kernel_rfl) ?_) | (refine SXw.v (fun _ => (qav 0 rfl rfl rfl)) rfl (fun _ => rfl) rfl ?_) | (refine SXw.v (fun _ => (qav 2 rfl rfl rfl)) rfl (fun _ => rfl) rfl ?_) | (refine SXw.v (fun _ => (qae rfl)) rfl (fun _ => rfl) rfl ?_) | (refine SXw.v (fun _ => (qak rfl)) rfl (fun _ => rfl) rfl ?_) | (refine SXw.v (fun _ => (OpW.subi rfl rfl (by omega) (by omega))) rfl (fun _ => rfl) rfl ?_))
    refine SXw.tailO 7 hf (.head _) (fun xq pq hxq _ => ?_)
    simp only [hxq]
    repeat (first | (refine qaI ?_; (refine qac ((qaF (i := k) hkp rfl (congrArg (fun i : Int => some (Value.int .i64 i)) (by omega : ((k + 1 : Nat) : Int) - 1 = (k : Int))))) rfl ?_ ?_ ?_); rfl; rfl) | (refine qai ?_; (refine qac (qae rfl) rfl ?_ ?_ ?_); rfl; rfl))
    refine SXl.treeRules0 (c := qc) ({ x1 with measured := true, rules := r }, { p with ra := pq.1, rc := pq.2 }) (List.getElem?_set_self hkp) rfl rfl rfl rfl rfl rfl rfl ?_
    repeat (first | refine qan ?_ | refine qaj ?_ | refine qaf ?_ | refine qad ?_ | (refine qaw ?_; (refine qac (qal 0 rfl rfl rfl) rfl ?_ ?_ ?_); rfl; rfl) | (refine qam ?_; (refine qac (qah rfl) rfl ?_ ?_ ?_); rfl; rfl) | (refine qas ?_; first | ((first | refine qag 0 ?_ rfl rfl rfl rfl rfl rfl ?_ | refine qag 1 ?_ rfl rfl rfl rfl rfl rfl ?_ | refine qag 2 ?_ rfl rfl rfl rfl rfl rfl ?_); rfl; simp only [List.set_cons_zero, List.set_cons_succ]) | ((first | refine qaa 0 ?_ rfl rfl rfl rfl rfl rfl rfl ?_ | refine qaa 1 ?_ rfl rfl rfl rfl rfl rfl rfl ?_ | refine qaa 2 ?_ rfl rfl rfl rfl rfl rfl rfl ?_); rfl; simp only [List.set_cons_zero, List.set_cons_succ]) | ((first | refine qab 0 ?_ rfl rfl rfl rfl rfl rfl rfl ?_ | refine qab 1 ?_ rfl rfl rfl rfl rfl rfl rfl ?_ | refine qab 2 ?_ rfl rfl rfl rfl rfl rfl rfl ?_); rfl; simp only [over, List.set_cons_zero, List.set_cons_succ])) | refine qaz ?_)
    refine qaL 1 rfl rfl rfl rfl rfl (fun w' hl => ⟨⟨(ps.set k ({ x1 with measured := true }, p)).set k ({ x1 with measured := true, rules := r }, { p with ra := pq.1, rc := pq.2 }), some ⟨gt, 0, none⟩, qc⟩, ?_, ?_, hl.owns, hl.mod⟩)
    · simp [TreeQ.v, List.length_set]
    · show bare _ = putTable l _ r
      rw [bare_set, bare_set, hq, List.set_set]
      unfold putTable
      rw [hnx, show (((k + 1 : Nat) : Int) - 1).toNat = k by omega, decide_eq_true hrne]
end Go.Proofs.Ythffgbhphjkdeaa
