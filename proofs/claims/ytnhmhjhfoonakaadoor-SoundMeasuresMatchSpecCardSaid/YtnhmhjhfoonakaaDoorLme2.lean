/- SoundMeasuresMatchSpec: the row. -/
import Derived.Test.YtnhmhjhfoonakaaDoorLme1
set_option linter.unusedSimpArgs false
set_option linter.unusedVariables false
namespace Go.Proofs.YtnhmhjhfoonakaaDoor
open Go.ChangeShapes Go.WideShapes Go.ChangeAt Go.RowKit Go.Joins Go.Deep Go.Dw
theorem lawMe_closed : joinedFacts Tryd.pinned.checked.prog 5 Tryd.f5 Rows.soundMeasuresMatchSpecSpec Rows.soundMeasuresMatchSpecRow = true := by kernel_rfl
theorem lawMe_inst : Tryd.f5.isInstance Tryd.pinned.checked.prog Rows.soundMeasuresMatchSpecRow.origin Rows.soundMeasuresMatchSpecRow.targs := of_decide_eq_true (by kernel_rfl)
theorem lawMe_wrap : Tryd.f5.isWrapper Tryd.pinned.checked.prog Rows.soundMeasuresMatchSpecRow.wrapper Rows.soundMeasuresMatchSpecRow.mainSum := by unfold Func.isWrapper; first | (rw [if_pos (by decide +kernel)]; kernel_rfl) | (rw [if_neg (by decide +kernel)]; exact ⟨rfl, rfl⟩)
theorem lawMe_named : Tryd.pinned.checked.prog.funcNamed Rows.soundMeasuresMatchSpecRow.func = some 5 := by kernel_rfl
theorem lawMe_holds : Rows.SoundMeasuresMatchSpecSaid :=
  OpenClaim.holds_of_wide 5 Tryd.f5 rfl rfl rfl rfl rfl rfl rfl ⟨rfl, rfl, rfl, rfl, rfl⟩ rfl rfl rfl rfl rfl lawMe_named Tryd.func5 lawMe_closed lawMe_inst lawMe_wrap
    (fun os started H enc _ => lawMe_lifted os started H enc)
end Go.Proofs.YtnhmhjhfoonakaaDoor
