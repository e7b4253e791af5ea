/- ClockFitIsBest: the row. -/
import Derived.Test.YthgjgiccoobcgaaDoorLfb1
set_option linter.unusedSimpArgs false
set_option linter.unusedVariables false
namespace Go.Proofs.YthgjgiccoobcgaaDoor
open Go.ChangeShapes Go.WideShapes Go.ChangeAt Go.RowKit Go.Joins Go.Deep Go.Dw
theorem lawFb_closed : joinedFacts Tryd.pinned.checked.prog 4 Tryd.f4 Rows.clockFitIsBestSpec Rows.clockFitIsBestRow = true := by kernel_rfl
theorem lawFb_inst : Tryd.f4.isInstance Tryd.pinned.checked.prog Rows.clockFitIsBestRow.origin Rows.clockFitIsBestRow.targs := of_decide_eq_true (by kernel_rfl)
theorem lawFb_wrap : Tryd.f4.isWrapper Tryd.pinned.checked.prog Rows.clockFitIsBestRow.wrapper Rows.clockFitIsBestRow.mainSum := by unfold Func.isWrapper; first | (rw [if_pos (by decide +kernel)]; kernel_rfl) | (rw [if_neg (by decide +kernel)]; exact ⟨rfl, rfl⟩)
theorem lawFb_named : Tryd.pinned.checked.prog.funcNamed Rows.clockFitIsBestRow.func = some 4 := by kernel_rfl
theorem lawFb_holds : Rows.ClockFitIsBestSaid :=
  OpenClaim.holds_of_wide 4 Tryd.f4 rfl rfl rfl rfl rfl rfl rfl ⟨rfl, rfl, rfl, rfl, rfl⟩ rfl rfl rfl rfl rfl lawFb_named Tryd.func4 lawFb_closed lawFb_inst lawFb_wrap
    (fun os started H enc _ => lawFb_lifted os started H enc)
end Go.Proofs.YthgjgiccoobcgaaDoor
