/- ClockConvertMatchesSpec: the row. -/
import Derived.Test.YtcjdmffflepplaaGreatDoorLcv1
set_option linter.unusedSimpArgs false
set_option linter.unusedVariables false
namespace Go.Proofs.YtcjdmffflepplaaGreatDoor
open Go.ChangeShapes Go.WideShapes Go.ChangeAt Go.RowKit Go.Joins Go.Deep Go.Dw
theorem lawCv_closed : joinedFacts Tryz.pinned.checked.prog 3 Tryz.f3 Rows.clockConvertMatchesSpecSpec Rows.clockConvertMatchesSpecRow = true := by kernel_rfl
theorem lawCv_inst : Tryz.f3.isInstance Tryz.pinned.checked.prog Rows.clockConvertMatchesSpecRow.origin Rows.clockConvertMatchesSpecRow.targs := of_decide_eq_true (by kernel_rfl)
theorem lawCv_wrap : Tryz.f3.isWrapper Tryz.pinned.checked.prog Rows.clockConvertMatchesSpecRow.wrapper Rows.clockConvertMatchesSpecRow.mainSum := by unfold Func.isWrapper; first | (rw [if_pos (by decide +kernel)]; kernel_rfl) | (rw [if_neg (by decide +kernel)]; exact ⟨rfl, rfl⟩)
theorem lawCv_named : Tryz.pinned.checked.prog.funcNamed Rows.clockConvertMatchesSpecRow.func = some 3 := by kernel_rfl
theorem lawCv_holds : Rows.ClockConvertMatchesSpecSaid :=
  OpenClaim.holds_of_wide 3 Tryz.f3 rfl rfl rfl rfl rfl rfl rfl ⟨rfl, rfl, rfl, rfl, rfl⟩ rfl rfl rfl rfl rfl lawCv_named Tryz.func3 lawCv_closed lawCv_inst lawCv_wrap
    (fun os started H enc _ => lawCv_lifted os started H enc)
end Go.Proofs.YtcjdmffflepplaaGreatDoor
