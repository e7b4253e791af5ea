/- ClockTextsMatchSpec, where what it reads is of bulk at most 1048576: the row. -/
import Derived.Test.YthgjgiccoobcgaaGreatDoorLtm1
set_option linter.unusedSimpArgs false
set_option linter.unusedVariables false
namespace Go.Proofs.YthgjgiccoobcgaaGreatDoor
open Go.ChangeShapes Go.WideShapes Go.ChangeAt Go.RowKit Go.Joins Go.Deep Go.Dw
theorem lawTm_closed : joinedFacts Tryz.pinned.checked.prog 4 Tryz.f4 (Rows.OpenSpec.upto Rows.clockTextsMatchSpecSpec).bare Rows.clockTextsMatchSpecUptoRow = true := by kernel_rfl
theorem lawTm_inst : Tryz.f4.isInstance Tryz.pinned.checked.prog Rows.clockTextsMatchSpecUptoRow.origin Rows.clockTextsMatchSpecUptoRow.targs := of_decide_eq_true (by kernel_rfl)
theorem lawTm_wrap : Tryz.f4.isWrapper Tryz.pinned.checked.prog Rows.clockTextsMatchSpecUptoRow.wrapper Rows.clockTextsMatchSpecUptoRow.mainSum := by unfold Func.isWrapper; first | (rw [if_pos (by decide +kernel)]; kernel_rfl) | (rw [if_neg (by decide +kernel)]; exact ⟨rfl, rfl⟩)
theorem lawTm_named : Tryz.pinned.checked.prog.funcNamed Rows.clockTextsMatchSpecUptoRow.func = some 4 := by kernel_rfl
theorem lawTm_holds : Rows.ClockTextsMatchSpecUptoSaid :=
  OpenClaim.holds_of_cond 4 Tryz.f4 rfl rfl rfl rfl rfl rfl rfl ⟨rfl, rfl, rfl, rfl, rfl⟩ rfl rfl rfl rfl rfl lawTm_named Tryz.func4 lawTm_closed lawTm_inst lawTm_wrap
    (fun os started H enc _ F => by rw [OpenClaim.pre_eq_preRow]; exact lawTm_lifted os started H enc F)
end Go.Proofs.YthgjgiccoobcgaaGreatDoor
