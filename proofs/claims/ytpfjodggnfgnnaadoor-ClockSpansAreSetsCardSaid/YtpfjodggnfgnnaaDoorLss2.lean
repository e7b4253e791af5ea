/- ClockSpansAreSets: the row. -/
import Derived.Test.YtpfjodggnfgnnaaDoorLss1
set_option linter.unusedSimpArgs false
set_option linter.unusedVariables false
namespace Go.Proofs.YtpfjodggnfgnnaaDoor
open Go.ChangeShapes Go.WideShapes Go.ChangeAt Go.RowKit Go.Joins Go.Deep Go.Dw
theorem lawSs_closed : joinedFacts Tryd.pinned.checked.prog 4 Tryd.f4 Rows.clockSpansAreSetsSpec Rows.clockSpansAreSetsRow = true := by kernel_rfl
theorem lawSs_inst : Tryd.f4.isInstance Tryd.pinned.checked.prog Rows.clockSpansAreSetsRow.origin Rows.clockSpansAreSetsRow.targs := of_decide_eq_true (by kernel_rfl)
theorem lawSs_wrap : Tryd.f4.isWrapper Tryd.pinned.checked.prog Rows.clockSpansAreSetsRow.wrapper Rows.clockSpansAreSetsRow.mainSum := by unfold Func.isWrapper; first | (rw [if_pos (by decide +kernel)]; kernel_rfl) | (rw [if_neg (by decide +kernel)]; exact ⟨rfl, rfl⟩)
theorem lawSs_named : Tryd.pinned.checked.prog.funcNamed Rows.clockSpansAreSetsRow.func = some 4 := by kernel_rfl
theorem lawSs_holds : Rows.ClockSpansAreSetsSaid :=
  OpenClaim.holds_of_wide 4 Tryd.f4 rfl rfl rfl rfl rfl rfl rfl ⟨rfl, rfl, rfl, rfl, rfl⟩ rfl rfl rfl rfl rfl lawSs_named Tryd.func4 lawSs_closed lawSs_inst lawSs_wrap
    (fun os started H enc _ => lawSs_lifted os started H enc)
end Go.Proofs.YtpfjodggnfgnnaaDoor
