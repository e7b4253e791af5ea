/- ClockTicksComeBack: the row. -/
import Derived.Test.YtdoffngamppkkaaDoorLTick1
set_option linter.unusedSimpArgs false
set_option linter.unusedVariables false
namespace Go.Proofs.YtdoffngamppkkaaDoor
open Go.ChangeShapes Go.WideShapes Go.ChangeAt Go.RowKit Go.Joins Go.Deep Go.Dw
theorem lawTicks_closed : joinedFacts Tryd.pinned.checked.prog 3 Tryd.f3 Rows.clockTicksComeBackSpec Rows.clockTicksComeBackRow = true := by kernel_rfl
theorem lawTicks_inst : Tryd.f3.isInstance Tryd.pinned.checked.prog Rows.clockTicksComeBackRow.origin Rows.clockTicksComeBackRow.targs := of_decide_eq_true (by kernel_rfl)
theorem lawTicks_wrap : Tryd.f3.isWrapper Tryd.pinned.checked.prog Rows.clockTicksComeBackRow.wrapper Rows.clockTicksComeBackRow.mainSum := by unfold Func.isWrapper; first | (rw [if_pos (by decide +kernel)]; kernel_rfl) | (rw [if_neg (by decide +kernel)]; exact ⟨rfl, rfl⟩)
theorem lawTicks_named : Tryd.pinned.checked.prog.funcNamed Rows.clockTicksComeBackRow.func = some 3 := by kernel_rfl
theorem lawTicks_holds : Rows.ClockTicksComeBackSaid :=
  OpenClaim.holds_of_wide 3 Tryd.f3 rfl rfl rfl rfl rfl rfl rfl ⟨rfl, rfl, rfl, rfl, rfl⟩ rfl rfl rfl rfl rfl lawTicks_named Tryd.func3 lawTicks_closed lawTicks_inst lawTicks_wrap
    (fun os started H enc _ => lawTicks_lifted os started H enc)
end Go.Proofs.YtdoffngamppkkaaDoor
