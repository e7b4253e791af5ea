/- SoundRoutesMatchSpec: the row. -/
import Derived.Test.YtnhmhjhfoonakaaGreatDoorLro1
set_option linter.unusedSimpArgs false
set_option linter.unusedVariables false
namespace Go.Proofs.YtnhmhjhfoonakaaGreatDoor
open Go.ChangeShapes Go.WideShapes Go.ChangeAt Go.RowKit Go.Joins Go.Deep Go.Dw
theorem lawRt_closed : joinedFacts Tryz.pinned.checked.prog 4 Tryz.f4 Rows.soundRoutesMatchSpecSpec Rows.soundRoutesMatchSpecRow = true := by kernel_rfl
theorem lawRt_inst : Tryz.f4.isInstance Tryz.pinned.checked.prog Rows.soundRoutesMatchSpecRow.origin Rows.soundRoutesMatchSpecRow.targs := of_decide_eq_true (by kernel_rfl)
theorem lawRt_wrap : Tryz.f4.isWrapper Tryz.pinned.checked.prog Rows.soundRoutesMatchSpecRow.wrapper Rows.soundRoutesMatchSpecRow.mainSum := by unfold Func.isWrapper; first | (rw [if_pos (by decide +kernel)]; kernel_rfl) | (rw [if_neg (by decide +kernel)]; exact ⟨rfl, rfl⟩)
theorem lawRt_named : Tryz.pinned.checked.prog.funcNamed Rows.soundRoutesMatchSpecRow.func = some 4 := by kernel_rfl
theorem lawRt_holds : Rows.SoundRoutesMatchSpecSaid :=
  OpenClaim.holds_of_wide 4 Tryz.f4 rfl rfl rfl rfl rfl rfl rfl ⟨rfl, rfl, rfl, rfl, rfl⟩ rfl rfl rfl rfl rfl lawRt_named Tryz.func4 lawRt_closed lawRt_inst lawRt_wrap
    (fun os started H enc _ => lawRt_lifted os started H enc)
end Go.Proofs.YtnhmhjhfoonakaaGreatDoor
