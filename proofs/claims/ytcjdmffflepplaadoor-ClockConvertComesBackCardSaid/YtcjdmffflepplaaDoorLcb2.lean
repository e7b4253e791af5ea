/- ClockConvertComesBack: the row. -/
import Derived.Test.YtcjdmffflepplaaDoorLcb1
set_option linter.unusedSimpArgs false
set_option linter.unusedVariables false
namespace Go.Proofs.YtcjdmffflepplaaDoor
open Go.ChangeShapes Go.WideShapes Go.ChangeAt Go.RowKit Go.Joins Go.Deep Go.Dw
theorem lawCB_closed : joinedFacts Tryd.pinned.checked.prog 3 Tryd.f3 Rows.clockConvertComesBackSpec Rows.clockConvertComesBackRow = true := by kernel_rfl
theorem lawCB_inst : Tryd.f3.isInstance Tryd.pinned.checked.prog Rows.clockConvertComesBackRow.origin Rows.clockConvertComesBackRow.targs := of_decide_eq_true (by kernel_rfl)
theorem lawCB_wrap : Tryd.f3.isWrapper Tryd.pinned.checked.prog Rows.clockConvertComesBackRow.wrapper Rows.clockConvertComesBackRow.mainSum := by unfold Func.isWrapper; first | (rw [if_pos (by decide +kernel)]; kernel_rfl) | (rw [if_neg (by decide +kernel)]; exact ⟨rfl, rfl⟩)
theorem lawCB_named : Tryd.pinned.checked.prog.funcNamed Rows.clockConvertComesBackRow.func = some 3 := by kernel_rfl
theorem lawCB_holds : Rows.ClockConvertComesBackSaid :=
  OpenClaim.holds_of_wide 3 Tryd.f3 rfl rfl rfl rfl rfl rfl rfl ⟨rfl, rfl, rfl, rfl, rfl⟩ rfl rfl rfl rfl rfl lawCB_named Tryd.func3 lawCB_closed lawCB_inst lawCB_wrap
    (fun os started H enc _ => lawCB_lifted os started H enc)
end Go.Proofs.YtcjdmffflepplaaDoor
