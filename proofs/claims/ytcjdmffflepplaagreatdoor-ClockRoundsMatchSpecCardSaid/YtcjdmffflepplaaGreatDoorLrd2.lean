/- ClockRoundsMatchSpec: the row. -/
import Derived.Test.YtcjdmffflepplaaGreatDoorLrd1
set_option linter.unusedSimpArgs false
set_option linter.unusedVariables false
namespace Go.Proofs.YtcjdmffflepplaaGreatDoor
open Go.ChangeShapes Go.WideShapes Go.ChangeAt Go.RowKit Go.Joins Go.Deep Go.Dw
theorem lawRd_closed : joinedFacts Tryz.pinned.checked.prog 4 Tryz.f4 Rows.clockRoundsMatchSpecSpec Rows.clockRoundsMatchSpecRow = true := by kernel_rfl
theorem lawRd_inst : Tryz.f4.isInstance Tryz.pinned.checked.prog Rows.clockRoundsMatchSpecRow.origin Rows.clockRoundsMatchSpecRow.targs := of_decide_eq_true (by kernel_rfl)
theorem lawRd_wrap : Tryz.f4.isWrapper Tryz.pinned.checked.prog Rows.clockRoundsMatchSpecRow.wrapper Rows.clockRoundsMatchSpecRow.mainSum := by unfold Func.isWrapper; first | (rw [if_pos (by decide +kernel)]; kernel_rfl) | (rw [if_neg (by decide +kernel)]; exact ⟨rfl, rfl⟩)
theorem lawRd_named : Tryz.pinned.checked.prog.funcNamed Rows.clockRoundsMatchSpecRow.func = some 4 := by kernel_rfl
theorem lawRd_holds : Rows.ClockRoundsMatchSpecSaid :=
  OpenClaim.holds_of_wide 4 Tryz.f4 rfl rfl rfl rfl rfl rfl rfl ⟨rfl, rfl, rfl, rfl, rfl⟩ rfl rfl rfl rfl rfl lawRd_named Tryz.func4 lawRd_closed lawRd_inst lawRd_wrap
    (fun os started H enc _ => lawRd_lifted os started H enc)
end Go.Proofs.YtcjdmffflepplaaGreatDoor
