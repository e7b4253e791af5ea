/- ClockMovesMatchSpec: the row. -/
import Derived.Test.YthjmhdnamhifjaaGreatDoorLmv1
set_option linter.unusedSimpArgs false
set_option linter.unusedVariables false
namespace Go.Proofs.YthjmhdnamhifjaaGreatDoor
open Go.ChangeShapes Go.WideShapes Go.ChangeAt Go.RowKit Go.Joins Go.Deep Go.Dw
theorem lawMv_closed : joinedFacts Tryz.pinned.checked.prog 4 Tryz.f4 Rows.clockMovesMatchSpecSpec Rows.clockMovesMatchSpecRow = true := by kernel_rfl
theorem lawMv_inst : Tryz.f4.isInstance Tryz.pinned.checked.prog Rows.clockMovesMatchSpecRow.origin Rows.clockMovesMatchSpecRow.targs := of_decide_eq_true (by kernel_rfl)
theorem lawMv_wrap : Tryz.f4.isWrapper Tryz.pinned.checked.prog Rows.clockMovesMatchSpecRow.wrapper Rows.clockMovesMatchSpecRow.mainSum := by unfold Func.isWrapper; first | (rw [if_pos (by decide +kernel)]; kernel_rfl) | (rw [if_neg (by decide +kernel)]; exact ⟨rfl, rfl⟩)
theorem lawMv_named : Tryz.pinned.checked.prog.funcNamed Rows.clockMovesMatchSpecRow.func = some 4 := by kernel_rfl
theorem lawMv_holds : Rows.ClockMovesMatchSpecSaid :=
  OpenClaim.holds_of_wide 4 Tryz.f4 rfl rfl rfl rfl rfl rfl rfl ⟨rfl, rfl, rfl, rfl, rfl⟩ rfl rfl rfl rfl rfl lawMv_named Tryz.func4 lawMv_closed lawMv_inst lawMv_wrap
    (fun os started H enc _ => lawMv_lifted os started H enc)
end Go.Proofs.YthjmhdnamhifjaaGreatDoor
