/- ClockAcrossGoesThrough: the row. -/
import Derived.Test.YthjmhdnamhifjaaDoorLac1
set_option linter.unusedSimpArgs false
set_option linter.unusedVariables false
namespace Go.Proofs.YthjmhdnamhifjaaDoor
open Go.ChangeShapes Go.WideShapes Go.ChangeAt Go.RowKit Go.Joins Go.Deep Go.Dw
theorem lawAc_closed : joinedFacts Tryd.pinned.checked.prog 3 Tryd.f3 Rows.clockAcrossGoesThroughSpec Rows.clockAcrossGoesThroughRow = true := by kernel_rfl
theorem lawAc_inst : Tryd.f3.isInstance Tryd.pinned.checked.prog Rows.clockAcrossGoesThroughRow.origin Rows.clockAcrossGoesThroughRow.targs := of_decide_eq_true (by kernel_rfl)
theorem lawAc_wrap : Tryd.f3.isWrapper Tryd.pinned.checked.prog Rows.clockAcrossGoesThroughRow.wrapper Rows.clockAcrossGoesThroughRow.mainSum := by unfold Func.isWrapper; first | (rw [if_pos (by decide +kernel)]; kernel_rfl) | (rw [if_neg (by decide +kernel)]; exact ⟨rfl, rfl⟩)
theorem lawAc_named : Tryd.pinned.checked.prog.funcNamed Rows.clockAcrossGoesThroughRow.func = some 3 := by kernel_rfl
theorem lawAc_holds : Rows.ClockAcrossGoesThroughSaid :=
  OpenClaim.holds_of_wide 3 Tryd.f3 rfl rfl rfl rfl rfl rfl rfl ⟨rfl, rfl, rfl, rfl, rfl⟩ rfl rfl rfl rfl rfl lawAc_named Tryd.func3 lawAc_closed lawAc_inst lawAc_wrap
    (fun os started H enc _ => lawAc_lifted os started H enc)
end Go.Proofs.YthjmhdnamhifjaaDoor
