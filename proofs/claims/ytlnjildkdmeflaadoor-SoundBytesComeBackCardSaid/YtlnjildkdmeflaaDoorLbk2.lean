/- SoundBytesComeBack: the row. -/
import Derived.Test.YtlnjildkdmeflaaDoorLbk1
set_option linter.unusedSimpArgs false
set_option linter.unusedVariables false
namespace Go.Proofs.YtlnjildkdmeflaaDoor
open Go.ChangeShapes Go.WideShapes Go.ChangeAt Go.RowKit Go.Joins Go.Deep Go.Dw
theorem lawBk_closed : joinedFacts Tryd.pinned.checked.prog 4 Tryd.f4 (OpenSpec.ofChange Rows.soundBytesComeBackSpec).bare Rows.soundBytesComeBackRow = true := by kernel_rfl
theorem lawBk_inst : Tryd.f4.isInstance Tryd.pinned.checked.prog Rows.soundBytesComeBackRow.origin Rows.soundBytesComeBackRow.targs := of_decide_eq_true (by kernel_rfl)
theorem lawBk_wrap : Tryd.f4.isWrapper Tryd.pinned.checked.prog Rows.soundBytesComeBackRow.wrapper Rows.soundBytesComeBackRow.mainSum := by unfold Func.isWrapper; first | (rw [if_pos (by decide +kernel)]; kernel_rfl) | (rw [if_neg (by decide +kernel)]; exact ⟨rfl, rfl⟩)
theorem lawBk_named : Tryd.pinned.checked.prog.funcNamed Rows.soundBytesComeBackRow.func = some 4 := by kernel_rfl
theorem lawBk_holds : Rows.SoundBytesComeBackSaid :=
  OpenClaim.holds_of_cond 4 Tryd.f4 rfl rfl rfl rfl rfl rfl rfl ⟨rfl, rfl, rfl, rfl, rfl⟩ rfl rfl rfl rfl rfl lawBk_named Tryd.func4 lawBk_closed lawBk_inst lawBk_wrap
    (fun os started H enc _ F => by rw [OpenClaim.pre_eq_preRow]; exact lawBk_lifted os started H enc F)
end Go.Proofs.YtlnjildkdmeflaaDoor
