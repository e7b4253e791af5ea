/- ClockOutwardCovers: the row. -/
import Derived.Test.YtpfjodggnfgnnaaDoorLoc1
set_option linter.unusedSimpArgs false
set_option linter.unusedVariables false
namespace Go.Proofs.YtpfjodggnfgnnaaDoor
open Go.ChangeShapes Go.WideShapes Go.ChangeAt Go.RowKit Go.Joins Go.Deep Go.Dw
theorem lawOc_closed : joinedFacts Tryd.pinned.checked.prog 8 Tryd.f8 Rows.clockOutwardCoversSpec Rows.clockOutwardCoversRow = true := by kernel_rfl
theorem lawOc_inst : Tryd.f8.isInstance Tryd.pinned.checked.prog Rows.clockOutwardCoversRow.origin Rows.clockOutwardCoversRow.targs := of_decide_eq_true (by kernel_rfl)
theorem lawOc_wrap : Tryd.f8.isWrapper Tryd.pinned.checked.prog Rows.clockOutwardCoversRow.wrapper Rows.clockOutwardCoversRow.mainSum := by unfold Func.isWrapper; first | (rw [if_pos (by decide +kernel)]; kernel_rfl) | (rw [if_neg (by decide +kernel)]; exact ⟨rfl, rfl⟩)
theorem lawOc_named : Tryd.pinned.checked.prog.funcNamed Rows.clockOutwardCoversRow.func = some 8 := by kernel_rfl
theorem lawOc_holds : Rows.ClockOutwardCoversSaid :=
  OpenClaim.holds_of_wide 8 Tryd.f8 rfl rfl rfl rfl rfl rfl rfl ⟨rfl, rfl, rfl, rfl, rfl⟩ rfl rfl rfl rfl rfl lawOc_named Tryd.func8 lawOc_closed lawOc_inst lawOc_wrap
    (fun os started H enc _ => lawOc_lifted os started H enc)
end Go.Proofs.YtpfjodggnfgnnaaDoor
