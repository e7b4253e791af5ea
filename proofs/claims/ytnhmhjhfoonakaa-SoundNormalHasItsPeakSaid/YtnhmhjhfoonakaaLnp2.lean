/- What is made normal has just its peak, and stays when it is made normal again: for every sound and every peak that the row admits. -/
import Derived.Test.YtnhmhjhfoonakaaLnp1
set_option linter.unusedSimpArgs false
set_option linter.unusedVariables false
namespace Go.Proofs.Ytnhmhjhfoonakaa
open Go.ChangeShapes Go.WideShapes Go.ChangeAt Go.RowKit Go.Joins Go.Deep Go.Dw
theorem lawNp_closed : joinedFacts Try.pinned.checked.prog 4 Try.f4 Rows.soundNormalHasItsPeakSpec Rows.soundNormalHasItsPeakRow = true := by kernel_rfl
theorem lawNp_inst : Try.f4.isInstance Try.pinned.checked.prog Rows.soundNormalHasItsPeakRow.origin Rows.soundNormalHasItsPeakRow.targs := of_decide_eq_true (by kernel_rfl)
theorem lawNp_wrap : Try.f4.isWrapper Try.pinned.checked.prog Rows.soundNormalHasItsPeakRow.wrapper Rows.soundNormalHasItsPeakRow.mainSum := by unfold Func.isWrapper; first | (rw [if_pos (by decide +kernel)]; kernel_rfl) | (rw [if_neg (by decide +kernel)]; exact ⟨rfl, rfl⟩)
theorem lawNp_named : Try.pinned.checked.prog.funcNamed Rows.soundNormalHasItsPeakRow.func = some 4 := by kernel_rfl
theorem lawNp_holds : Rows.SoundNormalHasItsPeakSaid :=
  OpenClaim.holds_of_wide 4 Try.f4 rfl rfl rfl rfl rfl rfl rfl ⟨rfl, rfl, rfl, rfl, rfl⟩ rfl rfl rfl rfl rfl lawNp_named Try.func4 lawNp_closed lawNp_inst lawNp_wrap
    (fun os started H enc _ => lawNp_lifted os started H enc)
#print axioms lawNp_holds
end Go.Proofs.Ytnhmhjhfoonakaa
