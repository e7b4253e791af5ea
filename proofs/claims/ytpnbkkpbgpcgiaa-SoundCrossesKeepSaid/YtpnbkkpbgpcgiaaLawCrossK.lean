/- What is proved: without samples in common sound.Cross joins; a constant that is crossed with itself by straight lines stays what it is (SoundCrossesKeep), for all sounds and all whole numbers; no condition. -/
import Derived.Test.YtpnbkkpbgpcgiaaCross6
set_option linter.unusedSimpArgs false
set_option linter.unusedVariables false
namespace Go.Proofs.Ytpnbkkpbgpcgiaa
open Go.ChangeShapes Go.WideShapes Go.ChangeAt Go.RowKit Go.Dw
theorem lawCrossK_closed : joinedFacts Try.pinned.checked.prog 18 Try.f18 Rows.soundCrossesKeepSpec Rows.soundCrossesKeepRow = true := by kernel_rfl
theorem lawCrossK_inst : Try.f18.isInstance Try.pinned.checked.prog Rows.soundCrossesKeepRow.origin Rows.soundCrossesKeepRow.targs := of_decide_eq_true (by kernel_rfl)
theorem lawCrossK_wrap : Try.f18.isWrapper Try.pinned.checked.prog Rows.soundCrossesKeepRow.wrapper Rows.soundCrossesKeepRow.mainSum := by unfold Func.isWrapper; first | (rw [if_pos (by decide +kernel)]; kernel_rfl) | (rw [if_neg (by decide +kernel)]; exact ⟨rfl, rfl⟩)
theorem lawCrossK_named : Try.pinned.checked.prog.funcNamed Rows.soundCrossesKeepRow.func = some 18 := by kernel_rfl
theorem lawCrossK_holds : Rows.SoundCrossesKeepSaid :=
  OpenClaim.holds_of_wide 18 Try.f18 rfl rfl rfl rfl rfl rfl rfl ⟨rfl, rfl, rfl, rfl, rfl⟩ rfl rfl rfl rfl rfl lawCrossK_named Try.func18 lawCrossK_closed lawCrossK_inst lawCrossK_wrap
    (fun os started H enc _ => lawCrossK_lifted os started H enc)
end Go.Proofs.Ytpnbkkpbgpcgiaa
