/- ClockBarsComeBack, where what it reads is of bulk at most 1048576: the row. -/
import Derived.Test.YtpfjodggnfgnnaaDoorLbb1
set_option linter.unusedSimpArgs false
set_option linter.unusedVariables false
namespace Go.Proofs.YtpfjodggnfgnnaaDoor
open Go.ChangeShapes Go.WideShapes Go.ChangeAt Go.RowKit Go.Joins Go.Deep Go.Dw
theorem lawBb_closed : joinedFacts Tryd.pinned.checked.prog 6 Tryd.f6 (Rows.OpenSpec.upto Rows.clockBarsComeBackSpec).bare Rows.clockBarsComeBackUptoRow = true := by kernel_rfl
theorem lawBb_inst : Tryd.f6.isInstance Tryd.pinned.checked.prog Rows.clockBarsComeBackUptoRow.origin Rows.clockBarsComeBackUptoRow.targs := of_decide_eq_true (by kernel_rfl)
theorem lawBb_wrap : Tryd.f6.isWrapper Tryd.pinned.checked.prog Rows.clockBarsComeBackUptoRow.wrapper Rows.clockBarsComeBackUptoRow.mainSum := by unfold Func.isWrapper; first | (rw [if_pos (by decide +kernel)]; kernel_rfl) | (rw [if_neg (by decide +kernel)]; exact ⟨rfl, rfl⟩)
theorem lawBb_named : Tryd.pinned.checked.prog.funcNamed Rows.clockBarsComeBackUptoRow.func = some 6 := by kernel_rfl
theorem lawBb_holds : Rows.ClockBarsComeBackUptoSaid :=
  OpenClaim.holds_of_cond 6 Tryd.f6 rfl rfl rfl rfl rfl rfl rfl ⟨rfl, rfl, rfl, rfl, rfl⟩ rfl rfl rfl rfl rfl lawBb_named Tryd.func6 lawBb_closed lawBb_inst lawBb_wrap
    (fun os started H enc _ F => by rw [OpenClaim.pre_eq_preRow]; exact lawBb_lifted os started H enc F)
end Go.Proofs.YtpfjodggnfgnnaaDoor
