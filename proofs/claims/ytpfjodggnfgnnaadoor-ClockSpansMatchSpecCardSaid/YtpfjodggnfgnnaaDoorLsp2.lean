/- ClockSpansMatchSpec: the row. -/
import Derived.Test.YtpfjodggnfgnnaaDoorLsp1
set_option linter.unusedSimpArgs false
set_option linter.unusedVariables false
namespace Go.Proofs.YtpfjodggnfgnnaaDoor
open Go.ChangeShapes Go.WideShapes Go.ChangeAt Go.RowKit Go.Joins Go.Deep Go.Dw
theorem lawSp_closed : joinedFacts Tryd.pinned.checked.prog 3 Tryd.f3 Rows.clockSpansMatchSpecSpec Rows.clockSpansMatchSpecRow = true := by kernel_rfl
theorem lawSp_inst : Tryd.f3.isInstance Tryd.pinned.checked.prog Rows.clockSpansMatchSpecRow.origin Rows.clockSpansMatchSpecRow.targs := of_decide_eq_true (by kernel_rfl)
theorem lawSp_wrap : Tryd.f3.isWrapper Tryd.pinned.checked.prog Rows.clockSpansMatchSpecRow.wrapper Rows.clockSpansMatchSpecRow.mainSum := by unfold Func.isWrapper; first | (rw [if_pos (by decide +kernel)]; kernel_rfl) | (rw [if_neg (by decide +kernel)]; exact ⟨rfl, rfl⟩)
theorem lawSp_named : Tryd.pinned.checked.prog.funcNamed Rows.clockSpansMatchSpecRow.func = some 3 := by kernel_rfl
theorem lawSp_holds : Rows.ClockSpansMatchSpecSaid :=
  OpenClaim.holds_of_wide 3 Tryd.f3 rfl rfl rfl rfl rfl rfl rfl ⟨rfl, rfl, rfl, rfl, rfl⟩ rfl rfl rfl rfl rfl lawSp_named Tryd.func3 lawSp_closed lawSp_inst lawSp_wrap
    (fun os started H enc _ => lawSp_lifted os started H enc)
end Go.Proofs.YtpfjodggnfgnnaaDoor
