/- TopComposedEditsSoundAlike: the row. -/
import Derived.Test.YtkmcohnhanphdaaGreatDoorLco1
set_option linter.unusedSimpArgs false
set_option linter.unusedVariables false
namespace Go.Proofs.YtkmcohnhanphdaaGreatDoor
open Go.ChangeShapes Go.WideShapes Go.ChangeAt Go.RowKit Go.Joins Go.Deep Go.Dw
theorem lawCo_closed : joinedFacts Tryz.pinned.checked.prog 3 Tryz.f3 (OpenSpec.ofChange Rows.topComposedEditsSoundAlikeSpec).bare Rows.topComposedEditsSoundAlikeRow = true := by kernel_rfl
theorem lawCo_inst : Tryz.f3.isInstance Tryz.pinned.checked.prog Rows.topComposedEditsSoundAlikeRow.origin Rows.topComposedEditsSoundAlikeRow.targs := of_decide_eq_true (by kernel_rfl)
theorem lawCo_wrap : Tryz.f3.isWrapper Tryz.pinned.checked.prog Rows.topComposedEditsSoundAlikeRow.wrapper Rows.topComposedEditsSoundAlikeRow.mainSum := by unfold Func.isWrapper; first | (rw [if_pos (by decide +kernel)]; kernel_rfl) | (rw [if_neg (by decide +kernel)]; exact ⟨rfl, rfl⟩)
theorem lawCo_named : Tryz.pinned.checked.prog.funcNamed Rows.topComposedEditsSoundAlikeRow.func = some 3 := by kernel_rfl
theorem lawCo_holds : Rows.TopComposedEditsSoundAlikeSaid :=
  OpenClaim.holds_of_cond 3 Tryz.f3 rfl rfl rfl rfl rfl rfl rfl ⟨rfl, rfl, rfl, rfl, rfl⟩ rfl rfl rfl rfl rfl lawCo_named Tryz.func3 lawCo_closed lawCo_inst lawCo_wrap
    (fun os started H enc _ F => by rw [OpenClaim.pre_eq_preRow]; exact lawCo_lifted os started H enc F)
end Go.Proofs.YtkmcohnhanphdaaGreatDoor
