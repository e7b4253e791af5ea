/- SoundNormalMatchesSpec: the row. -/
import Derived.Test.YtnhmhjhfoonakaaGreatDoorLno1
set_option linter.unusedSimpArgs false
set_option linter.unusedVariables false
namespace Go.Proofs.YtnhmhjhfoonakaaGreatDoor
open Go.ChangeShapes Go.WideShapes Go.ChangeAt Go.RowKit Go.Joins Go.Deep Go.Dw
theorem lawNo_closed : joinedFacts Tryz.pinned.checked.prog 5 Tryz.f5 Rows.soundNormalMatchesSpecSpec Rows.soundNormalMatchesSpecRow = true := by kernel_rfl
theorem lawNo_inst : Tryz.f5.isInstance Tryz.pinned.checked.prog Rows.soundNormalMatchesSpecRow.origin Rows.soundNormalMatchesSpecRow.targs := of_decide_eq_true (by kernel_rfl)
theorem lawNo_wrap : Tryz.f5.isWrapper Tryz.pinned.checked.prog Rows.soundNormalMatchesSpecRow.wrapper Rows.soundNormalMatchesSpecRow.mainSum := by unfold Func.isWrapper; first | (rw [if_pos (by decide +kernel)]; kernel_rfl) | (rw [if_neg (by decide +kernel)]; exact ⟨rfl, rfl⟩)
theorem lawNo_named : Tryz.pinned.checked.prog.funcNamed Rows.soundNormalMatchesSpecRow.func = some 5 := by kernel_rfl
theorem lawNo_holds : Rows.SoundNormalMatchesSpecSaid :=
  OpenClaim.holds_of_wide 5 Tryz.f5 rfl rfl rfl rfl rfl rfl rfl ⟨rfl, rfl, rfl, rfl, rfl⟩ rfl rfl rfl rfl rfl lawNo_named Tryz.func5 lawNo_closed lawNo_inst lawNo_wrap
    (fun os started H enc _ => lawNo_lifted os started H enc)
end Go.Proofs.YtnhmhjhfoonakaaGreatDoor
