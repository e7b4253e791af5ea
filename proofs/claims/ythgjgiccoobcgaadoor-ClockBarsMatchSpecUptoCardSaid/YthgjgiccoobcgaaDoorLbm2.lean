/- ClockBarsMatchSpec, where what it reads is of bulk at most 1048576: the row. -/
import Derived.Test.YthgjgiccoobcgaaDoorLbm1
set_option linter.unusedSimpArgs false
set_option linter.unusedVariables false
namespace Go.Proofs.YthgjgiccoobcgaaDoor
open Go.ChangeShapes Go.WideShapes Go.ChangeAt Go.RowKit Go.Joins Go.Deep Go.Dw
theorem lawBm_closed : joinedFacts Tryd.pinned.checked.prog 3 Tryd.f3 (Rows.OpenSpec.upto Rows.clockBarsMatchSpecSpec).bare Rows.clockBarsMatchSpecUptoRow = true := by kernel_rfl
theorem lawBm_inst : Tryd.f3.isInstance Tryd.pinned.checked.prog Rows.clockBarsMatchSpecUptoRow.origin Rows.clockBarsMatchSpecUptoRow.targs := of_decide_eq_true (by kernel_rfl)
theorem lawBm_wrap : Tryd.f3.isWrapper Tryd.pinned.checked.prog Rows.clockBarsMatchSpecUptoRow.wrapper Rows.clockBarsMatchSpecUptoRow.mainSum := by unfold Func.isWrapper; first | (rw [if_pos (by decide +kernel)]; kernel_rfl) | (rw [if_neg (by decide +kernel)]; exact ⟨rfl, rfl⟩)
theorem lawBm_named : Tryd.pinned.checked.prog.funcNamed Rows.clockBarsMatchSpecUptoRow.func = some 3 := by kernel_rfl
theorem lawBm_holds : Rows.ClockBarsMatchSpecUptoSaid :=
  OpenClaim.holds_of_cond 3 Tryd.f3 rfl rfl rfl rfl rfl rfl rfl ⟨rfl, rfl, rfl, rfl, rfl⟩ rfl rfl rfl rfl rfl lawBm_named Tryd.func3 lawBm_closed lawBm_inst lawBm_wrap
    (fun os started H enc _ F => by rw [OpenClaim.pre_eq_preRow]; exact lawBm_lifted os started H enc F)
end Go.Proofs.YthgjgiccoobcgaaDoor
