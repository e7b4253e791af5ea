/- ClockTextsComeBack, where what it reads is of bulk at most 1048576: the row. -/
import Derived.Test.YthgjgiccoobcgaaDoorLtb1
set_option linter.unusedSimpArgs false
set_option linter.unusedVariables false
namespace Go.Proofs.YthgjgiccoobcgaaDoor
open Go.ChangeShapes Go.WideShapes Go.ChangeAt Go.RowKit Go.Joins Go.Deep Go.Dw
theorem lawTb_closed : joinedFacts Tryd.pinned.checked.prog 5 Tryd.f5 (Rows.OpenSpec.upto Rows.clockTextsComeBackSpec).bare Rows.clockTextsComeBackUptoRow = true := by kernel_rfl
theorem lawTb_inst : Tryd.f5.isInstance Tryd.pinned.checked.prog Rows.clockTextsComeBackUptoRow.origin Rows.clockTextsComeBackUptoRow.targs := of_decide_eq_true (by kernel_rfl)
theorem lawTb_wrap : Tryd.f5.isWrapper Tryd.pinned.checked.prog Rows.clockTextsComeBackUptoRow.wrapper Rows.clockTextsComeBackUptoRow.mainSum := by unfold Func.isWrapper; first | (rw [if_pos (by decide +kernel)]; kernel_rfl) | (rw [if_neg (by decide +kernel)]; exact ⟨rfl, rfl⟩)
theorem lawTb_named : Tryd.pinned.checked.prog.funcNamed Rows.clockTextsComeBackUptoRow.func = some 5 := by kernel_rfl
theorem lawTb_holds : Rows.ClockTextsComeBackUptoSaid :=
  OpenClaim.holds_of_cond 5 Tryd.f5 rfl rfl rfl rfl rfl rfl rfl ⟨rfl, rfl, rfl, rfl, rfl⟩ rfl rfl rfl rfl rfl lawTb_named Tryd.func5 lawTb_closed lawTb_inst lawTb_wrap
    (fun os started H enc _ F => by rw [OpenClaim.pre_eq_preRow]; exact lawTb_lifted os started H enc F)
end Go.Proofs.YthgjgiccoobcgaaDoor
