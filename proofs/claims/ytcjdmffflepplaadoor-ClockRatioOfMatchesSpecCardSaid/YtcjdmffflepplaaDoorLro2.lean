/- ClockRatioOfMatchesSpec: the row. -/
import Derived.Test.YtcjdmffflepplaaDoorLro1
set_option linter.unusedSimpArgs false
set_option linter.unusedVariables false
namespace Go.Proofs.YtcjdmffflepplaaDoor
open Go.ChangeShapes Go.WideShapes Go.ChangeAt Go.RowKit Go.Joins Go.Deep Go.Dw
theorem lawRo_closed : joinedFacts Tryd.pinned.checked.prog 6 Tryd.f6 Rows.clockRatioOfMatchesSpecSpec Rows.clockRatioOfMatchesSpecRow = true := by kernel_rfl
theorem lawRo_inst : Tryd.f6.isInstance Tryd.pinned.checked.prog Rows.clockRatioOfMatchesSpecRow.origin Rows.clockRatioOfMatchesSpecRow.targs := of_decide_eq_true (by kernel_rfl)
theorem lawRo_wrap : Tryd.f6.isWrapper Tryd.pinned.checked.prog Rows.clockRatioOfMatchesSpecRow.wrapper Rows.clockRatioOfMatchesSpecRow.mainSum := by unfold Func.isWrapper; first | (rw [if_pos (by decide +kernel)]; kernel_rfl) | (rw [if_neg (by decide +kernel)]; exact ⟨rfl, rfl⟩)
theorem lawRo_named : Tryd.pinned.checked.prog.funcNamed Rows.clockRatioOfMatchesSpecRow.func = some 6 := by kernel_rfl
theorem lawRo_holds : Rows.ClockRatioOfMatchesSpecSaid :=
  OpenClaim.holds_of_wide 6 Tryd.f6 rfl rfl rfl rfl rfl rfl rfl ⟨rfl, rfl, rfl, rfl, rfl⟩ rfl rfl rfl rfl rfl lawRo_named Tryd.func6 lawRo_closed lawRo_inst lawRo_wrap
    (fun os started H enc _ => lawRo_lifted os started H enc)
end Go.Proofs.YtcjdmffflepplaaDoor
