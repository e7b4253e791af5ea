/- ClockRatiosMatchSpec: the row. -/
import Derived.Test.YtcjdmffflepplaaGreatDoorLrs1
set_option linter.unusedSimpArgs false
set_option linter.unusedVariables false
namespace Go.Proofs.YtcjdmffflepplaaGreatDoor
open Go.ChangeShapes Go.WideShapes Go.ChangeAt Go.RowKit Go.Joins Go.Deep Go.Dw
theorem lawRs_closed : joinedFacts Tryz.pinned.checked.prog 5 Tryz.f5 Rows.clockRatiosMatchSpecSpec Rows.clockRatiosMatchSpecRow = true := by kernel_rfl
theorem lawRs_inst : Tryz.f5.isInstance Tryz.pinned.checked.prog Rows.clockRatiosMatchSpecRow.origin Rows.clockRatiosMatchSpecRow.targs := of_decide_eq_true (by kernel_rfl)
theorem lawRs_wrap : Tryz.f5.isWrapper Tryz.pinned.checked.prog Rows.clockRatiosMatchSpecRow.wrapper Rows.clockRatiosMatchSpecRow.mainSum := by unfold Func.isWrapper; first | (rw [if_pos (by decide +kernel)]; kernel_rfl) | (rw [if_neg (by decide +kernel)]; exact ⟨rfl, rfl⟩)
theorem lawRs_named : Tryz.pinned.checked.prog.funcNamed Rows.clockRatiosMatchSpecRow.func = some 5 := by kernel_rfl
theorem lawRs_holds : Rows.ClockRatiosMatchSpecSaid :=
  OpenClaim.holds_of_wide 5 Tryz.f5 rfl rfl rfl rfl rfl rfl rfl ⟨rfl, rfl, rfl, rfl, rfl⟩ rfl rfl rfl rfl rfl lawRs_named Tryz.func5 lawRs_closed lawRs_inst lawRs_wrap
    (fun os started H enc _ => lawRs_lifted os started H enc)
end Go.Proofs.YtcjdmffflepplaaGreatDoor
