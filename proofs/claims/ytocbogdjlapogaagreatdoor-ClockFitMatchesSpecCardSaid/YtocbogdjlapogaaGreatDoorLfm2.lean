/- ClockFitMatchesSpec: the row. -/
import Derived.Test.YtocbogdjlapogaaGreatDoorLfm1
set_option linter.unusedSimpArgs false
set_option linter.unusedVariables false
namespace Go.Proofs.YtocbogdjlapogaaGreatDoor
open Go.ChangeShapes Go.WideShapes Go.ChangeAt Go.RowKit Go.Joins Go.Deep Go.Dw
theorem lawFm_closed : joinedFacts Tryz.pinned.checked.prog 3 Tryz.f3 Rows.clockFitMatchesSpecSpec Rows.clockFitMatchesSpecRow = true := by kernel_rfl
theorem lawFm_inst : Tryz.f3.isInstance Tryz.pinned.checked.prog Rows.clockFitMatchesSpecRow.origin Rows.clockFitMatchesSpecRow.targs := of_decide_eq_true (by kernel_rfl)
theorem lawFm_wrap : Tryz.f3.isWrapper Tryz.pinned.checked.prog Rows.clockFitMatchesSpecRow.wrapper Rows.clockFitMatchesSpecRow.mainSum := by unfold Func.isWrapper; first | (rw [if_pos (by decide +kernel)]; kernel_rfl) | (rw [if_neg (by decide +kernel)]; exact ⟨rfl, rfl⟩)
theorem lawFm_named : Tryz.pinned.checked.prog.funcNamed Rows.clockFitMatchesSpecRow.func = some 3 := by kernel_rfl
theorem lawFm_holds : Rows.ClockFitMatchesSpecSaid :=
  OpenClaim.holds_of_wide 3 Tryz.f3 rfl rfl rfl rfl rfl rfl rfl ⟨rfl, rfl, rfl, rfl, rfl⟩ rfl rfl rfl rfl rfl lawFm_named Tryz.func3 lawFm_closed lawFm_inst lawFm_wrap
    (fun os started H enc _ => lawFm_lifted os started H enc)
end Go.Proofs.YtocbogdjlapogaaGreatDoor
