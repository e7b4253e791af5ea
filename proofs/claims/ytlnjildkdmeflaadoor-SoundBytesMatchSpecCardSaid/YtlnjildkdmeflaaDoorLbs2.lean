/- SoundBytesMatchSpec: the row. -/
import Derived.Test.YtlnjildkdmeflaaDoorLbs1
set_option linter.unusedSimpArgs false
set_option linter.unusedVariables false
namespace Go.Proofs.YtlnjildkdmeflaaDoor
open Go.ChangeShapes Go.WideShapes Go.ChangeAt Go.RowKit Go.Joins Go.Deep Go.Dw
theorem lawBs_closed : joinedFacts Tryd.pinned.checked.prog 3 Tryd.f3 (OpenSpec.ofChange Rows.soundBytesMatchSpecSpec).bare Rows.soundBytesMatchSpecRow = true := by kernel_rfl
theorem lawBs_inst : Tryd.f3.isInstance Tryd.pinned.checked.prog Rows.soundBytesMatchSpecRow.origin Rows.soundBytesMatchSpecRow.targs := of_decide_eq_true (by kernel_rfl)
theorem lawBs_wrap : Tryd.f3.isWrapper Tryd.pinned.checked.prog Rows.soundBytesMatchSpecRow.wrapper Rows.soundBytesMatchSpecRow.mainSum := by unfold Func.isWrapper; first | (rw [if_pos (by decide +kernel)]; kernel_rfl) | (rw [if_neg (by decide +kernel)]; exact ⟨rfl, rfl⟩)
theorem lawBs_named : Tryd.pinned.checked.prog.funcNamed Rows.soundBytesMatchSpecRow.func = some 3 := by kernel_rfl
theorem lawBs_holds : Rows.SoundBytesMatchSpecSaid :=
  OpenClaim.holds_of_cond 3 Tryd.f3 rfl rfl rfl rfl rfl rfl rfl ⟨rfl, rfl, rfl, rfl, rfl⟩ rfl rfl rfl rfl rfl lawBs_named Tryd.func3 lawBs_closed lawBs_inst lawBs_wrap
    (fun os started H enc _ F => by rw [OpenClaim.pre_eq_preRow]; exact lawBs_lifted os started H enc F)
end Go.Proofs.YtlnjildkdmeflaaDoor
