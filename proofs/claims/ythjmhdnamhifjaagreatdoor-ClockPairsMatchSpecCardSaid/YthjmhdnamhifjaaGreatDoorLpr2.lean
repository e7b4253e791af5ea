/- ClockPairsMatchSpec: the row. -/
import Derived.Test.YthjmhdnamhifjaaGreatDoorLpr1
set_option linter.unusedSimpArgs false
set_option linter.unusedVariables false
namespace Go.Proofs.YthjmhdnamhifjaaGreatDoor
open Go.ChangeShapes Go.WideShapes Go.ChangeAt Go.RowKit Go.Joins Go.Deep Go.Dw
theorem lawPr_closed : joinedFacts Tryz.pinned.checked.prog 5 Tryz.f5 Rows.clockPairsMatchSpecSpec Rows.clockPairsMatchSpecRow = true := by kernel_rfl
theorem lawPr_inst : Tryz.f5.isInstance Tryz.pinned.checked.prog Rows.clockPairsMatchSpecRow.origin Rows.clockPairsMatchSpecRow.targs := of_decide_eq_true (by kernel_rfl)
theorem lawPr_wrap : Tryz.f5.isWrapper Tryz.pinned.checked.prog Rows.clockPairsMatchSpecRow.wrapper Rows.clockPairsMatchSpecRow.mainSum := by unfold Func.isWrapper; first | (rw [if_pos (by decide +kernel)]; kernel_rfl) | (rw [if_neg (by decide +kernel)]; exact ⟨rfl, rfl⟩)
theorem lawPr_named : Tryz.pinned.checked.prog.funcNamed Rows.clockPairsMatchSpecRow.func = some 5 := by kernel_rfl
theorem lawPr_holds : Rows.ClockPairsMatchSpecSaid :=
  OpenClaim.holds_of_wide 5 Tryz.f5 rfl rfl rfl rfl rfl rfl rfl ⟨rfl, rfl, rfl, rfl, rfl⟩ rfl rfl rfl rfl rfl lawPr_named Tryz.func5 lawPr_closed lawPr_inst lawPr_wrap
    (fun os started H enc _ => lawPr_lifted os started H enc)
end Go.Proofs.YthjmhdnamhifjaaGreatDoor
