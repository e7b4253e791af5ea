/- Two sounds can be exchanged, silence changes nothing, and a sound with its opposite is silent: for all sounds that the row admits. -/
import Derived.Test.YtnhmhjhfoonakaaLms1
set_option linter.unusedSimpArgs false
set_option linter.unusedVariables false
namespace Go.Proofs.Ytnhmhjhfoonakaa
open Go.ChangeShapes Go.WideShapes Go.ChangeAt Go.RowKit Go.Joins Go.Deep Go.Dw
theorem lawMs_closed : joinedFacts Try.pinned.checked.prog 3 Try.f3 Rows.soundMixesAreSumsSpec Rows.soundMixesAreSumsRow = true := by kernel_rfl
theorem lawMs_inst : Try.f3.isInstance Try.pinned.checked.prog Rows.soundMixesAreSumsRow.origin Rows.soundMixesAreSumsRow.targs := of_decide_eq_true (by kernel_rfl)
theorem lawMs_wrap : Try.f3.isWrapper Try.pinned.checked.prog Rows.soundMixesAreSumsRow.wrapper Rows.soundMixesAreSumsRow.mainSum := by unfold Func.isWrapper; first | (rw [if_pos (by decide +kernel)]; kernel_rfl) | (rw [if_neg (by decide +kernel)]; exact ⟨rfl, rfl⟩)
theorem lawMs_named : Try.pinned.checked.prog.funcNamed Rows.soundMixesAreSumsRow.func = some 3 := by kernel_rfl
theorem lawMs_holds : Rows.SoundMixesAreSumsSaid :=
  OpenClaim.holds_of_wide 3 Try.f3 rfl rfl rfl rfl rfl rfl rfl ⟨rfl, rfl, rfl, rfl, rfl⟩ rfl rfl rfl rfl rfl lawMs_named Try.func3 lawMs_closed lawMs_inst lawMs_wrap
    (fun os started H enc _ => lawMs_lifted os started H enc)
#print axioms lawMs_holds
end Go.Proofs.Ytnhmhjhfoonakaa
