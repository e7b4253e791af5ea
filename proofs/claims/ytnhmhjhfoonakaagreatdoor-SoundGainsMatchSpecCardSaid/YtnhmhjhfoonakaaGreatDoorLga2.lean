/- SoundGainsMatchSpec: the row. -/
import Derived.Test.YtnhmhjhfoonakaaGreatDoorLga1
set_option linter.unusedSimpArgs false
set_option linter.unusedVariables false
namespace Go.Proofs.YtnhmhjhfoonakaaGreatDoor
open Go.ChangeShapes Go.WideShapes Go.ChangeAt Go.RowKit Go.Joins Go.Deep Go.Dw
theorem lawGa_closed : joinedFacts Tryz.pinned.checked.prog 3 Tryz.f3 Rows.soundGainsMatchSpecSpec Rows.soundGainsMatchSpecRow = true := by kernel_rfl
theorem lawGa_inst : Tryz.f3.isInstance Tryz.pinned.checked.prog Rows.soundGainsMatchSpecRow.origin Rows.soundGainsMatchSpecRow.targs := of_decide_eq_true (by kernel_rfl)
theorem lawGa_wrap : Tryz.f3.isWrapper Tryz.pinned.checked.prog Rows.soundGainsMatchSpecRow.wrapper Rows.soundGainsMatchSpecRow.mainSum := by unfold Func.isWrapper; first | (rw [if_pos (by decide +kernel)]; kernel_rfl) | (rw [if_neg (by decide +kernel)]; exact ⟨rfl, rfl⟩)
theorem lawGa_named : Tryz.pinned.checked.prog.funcNamed Rows.soundGainsMatchSpecRow.func = some 3 := by kernel_rfl
theorem lawGa_holds : Rows.SoundGainsMatchSpecSaid :=
  OpenClaim.holds_of_wide 3 Tryz.f3 rfl rfl rfl rfl rfl rfl rfl ⟨rfl, rfl, rfl, rfl, rfl⟩ rfl rfl rfl rfl rfl lawGa_named Tryz.func3 lawGa_closed lawGa_inst lawGa_wrap
    (fun os started H enc _ => lawGa_lifted os started H enc)
end Go.Proofs.YtnhmhjhfoonakaaGreatDoor
