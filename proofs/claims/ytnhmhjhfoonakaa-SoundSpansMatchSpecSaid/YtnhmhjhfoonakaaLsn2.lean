/- Silences and Clips are as the document says, with all errors: for every sound and numbers that the row admits. -/
import Derived.Test.YtnhmhjhfoonakaaLsn1
set_option linter.unusedSimpArgs false
set_option linter.unusedVariables false
namespace Go.Proofs.Ytnhmhjhfoonakaa
open Go.ChangeShapes Go.WideShapes Go.ChangeAt Go.RowKit Go.Joins Go.Deep Go.Dw
theorem lawSn_closed : joinedFacts Try.pinned.checked.prog 5 Try.f5 Rows.soundSpansMatchSpecSpec Rows.soundSpansMatchSpecRow = true := by kernel_rfl
theorem lawSn_inst : Try.f5.isInstance Try.pinned.checked.prog Rows.soundSpansMatchSpecRow.origin Rows.soundSpansMatchSpecRow.targs := of_decide_eq_true (by kernel_rfl)
theorem lawSn_wrap : Try.f5.isWrapper Try.pinned.checked.prog Rows.soundSpansMatchSpecRow.wrapper Rows.soundSpansMatchSpecRow.mainSum := by unfold Func.isWrapper; first | (rw [if_pos (by decide +kernel)]; kernel_rfl) | (rw [if_neg (by decide +kernel)]; exact ⟨rfl, rfl⟩)
theorem lawSn_named : Try.pinned.checked.prog.funcNamed Rows.soundSpansMatchSpecRow.func = some 5 := by kernel_rfl
theorem lawSn_holds : Rows.SoundSpansMatchSpecSaid :=
  OpenClaim.holds_of_wide 5 Try.f5 rfl rfl rfl rfl rfl rfl rfl ⟨rfl, rfl, rfl, rfl, rfl⟩ rfl rfl rfl rfl rfl lawSn_named Try.func5 lawSn_closed lawSn_inst lawSn_wrap
    (fun os started H enc _ => lawSn_lifted os started H enc)
#print axioms lawSn_holds
end Go.Proofs.Ytnhmhjhfoonakaa
