/- ClockRoundsAreNear: the row. -/
import Derived.Test.YtcjdmffflepplaaDoorLrn1
set_option linter.unusedSimpArgs false
set_option linter.unusedVariables false
namespace Go.Proofs.YtcjdmffflepplaaDoor
open Go.ChangeShapes Go.WideShapes Go.ChangeAt Go.RowKit Go.Joins Go.Deep Go.Dw
theorem lawRn_closed : joinedFacts Tryd.pinned.checked.prog 5 Tryd.f5 Rows.clockRoundsAreNearSpec Rows.clockRoundsAreNearRow = true := by kernel_rfl
theorem lawRn_inst : Tryd.f5.isInstance Tryd.pinned.checked.prog Rows.clockRoundsAreNearRow.origin Rows.clockRoundsAreNearRow.targs := of_decide_eq_true (by kernel_rfl)
theorem lawRn_wrap : Tryd.f5.isWrapper Tryd.pinned.checked.prog Rows.clockRoundsAreNearRow.wrapper Rows.clockRoundsAreNearRow.mainSum := by unfold Func.isWrapper; first | (rw [if_pos (by decide +kernel)]; kernel_rfl) | (rw [if_neg (by decide +kernel)]; exact ⟨rfl, rfl⟩)
theorem lawRn_named : Tryd.pinned.checked.prog.funcNamed Rows.clockRoundsAreNearRow.func = some 5 := by kernel_rfl
theorem lawRn_holds : Rows.ClockRoundsAreNearSaid :=
  OpenClaim.holds_of_wide 5 Tryd.f5 rfl rfl rfl rfl rfl rfl rfl ⟨rfl, rfl, rfl, rfl, rfl⟩ rfl rfl rfl rfl rfl lawRn_named Tryd.func5 lawRn_closed lawRn_inst lawRn_wrap
    (fun os started H enc _ => lawRn_lifted os started H enc)
end Go.Proofs.YtcjdmffflepplaaDoor
