/- ClockTempoMatchesSpec: the row. -/
import Derived.Test.YthjmhdnamhifjaaDoorLtp1
set_option linter.unusedSimpArgs false
set_option linter.unusedVariables false
namespace Go.Proofs.YthjmhdnamhifjaaDoor
open Go.ChangeShapes Go.WideShapes Go.ChangeAt Go.RowKit Go.Joins Go.Deep Go.Dw
theorem lawTp_closed : joinedFacts Tryd.pinned.checked.prog 4 Tryd.f4 Rows.clockTempoMatchesSpecSpec Rows.clockTempoMatchesSpecRow = true := by kernel_rfl
theorem lawTp_inst : Tryd.f4.isInstance Tryd.pinned.checked.prog Rows.clockTempoMatchesSpecRow.origin Rows.clockTempoMatchesSpecRow.targs := of_decide_eq_true (by kernel_rfl)
theorem lawTp_wrap : Tryd.f4.isWrapper Tryd.pinned.checked.prog Rows.clockTempoMatchesSpecRow.wrapper Rows.clockTempoMatchesSpecRow.mainSum := by unfold Func.isWrapper; first | (rw [if_pos (by decide +kernel)]; kernel_rfl) | (rw [if_neg (by decide +kernel)]; exact ⟨rfl, rfl⟩)
theorem lawTp_named : Tryd.pinned.checked.prog.funcNamed Rows.clockTempoMatchesSpecRow.func = some 4 := by kernel_rfl
theorem lawTp_holds : Rows.ClockTempoMatchesSpecSaid :=
  OpenClaim.holds_of_wide 4 Tryd.f4 rfl rfl rfl rfl rfl rfl rfl ⟨rfl, rfl, rfl, rfl, rfl⟩ rfl rfl rfl rfl rfl lawTp_named Tryd.func4 lawTp_closed lawTp_inst lawTp_wrap
    (fun os started H enc _ => lawTp_lifted os started H enc)
end Go.Proofs.YthjmhdnamhifjaaDoor
