/- ClockSumsAreExact: the row. -/
import Derived.Test.YtcjdmffflepplaaDoorLsu1
set_option linter.unusedSimpArgs false
set_option linter.unusedVariables false
namespace Go.Proofs.YtcjdmffflepplaaDoor
open Go.ChangeShapes Go.WideShapes Go.ChangeAt Go.RowKit Go.Joins Go.Deep Go.Dw
theorem lawSums_closed : joinedFacts Tryd.pinned.checked.prog 4 Tryd.f4 Rows.clockSumsAreExactSpec Rows.clockSumsAreExactRow = true := by kernel_rfl
theorem lawSums_inst : Tryd.f4.isInstance Tryd.pinned.checked.prog Rows.clockSumsAreExactRow.origin Rows.clockSumsAreExactRow.targs := of_decide_eq_true (by kernel_rfl)
theorem lawSums_wrap : Tryd.f4.isWrapper Tryd.pinned.checked.prog Rows.clockSumsAreExactRow.wrapper Rows.clockSumsAreExactRow.mainSum := by unfold Func.isWrapper; first | (rw [if_pos (by decide +kernel)]; kernel_rfl) | (rw [if_neg (by decide +kernel)]; exact ⟨rfl, rfl⟩)
theorem lawSums_named : Tryd.pinned.checked.prog.funcNamed Rows.clockSumsAreExactRow.func = some 4 := by kernel_rfl
theorem lawSums_holds : Rows.ClockSumsAreExactSaid :=
  OpenClaim.holds_of_wide 4 Tryd.f4 rfl rfl rfl rfl rfl rfl rfl ⟨rfl, rfl, rfl, rfl, rfl⟩ rfl rfl rfl rfl rfl lawSums_named Tryd.func4 lawSums_closed lawSums_inst lawSums_wrap
    (fun os started H enc _ => lawSums_lifted os started H enc)
end Go.Proofs.YtcjdmffflepplaaDoor
