/- What is proved: sound.Cross is as specified, with all errors (SoundCrossesMatchSpec), for all sounds and all whole numbers; no condition. -/
import Derived.Test.YtpnbkkpbgpcgiaaCross5
set_option linter.unusedSimpArgs false
set_option linter.unusedVariables false
namespace Go.Proofs.Ytpnbkkpbgpcgiaa
open Go.ChangeShapes Go.WideShapes Go.ChangeAt Go.RowKit Go.Dw
theorem lawCross_closed : joinedFacts Try.pinned.checked.prog 16 Try.f16 Rows.soundCrossesMatchSpecSpec Rows.soundCrossesMatchSpecRow = true := by kernel_rfl
theorem lawCross_inst : Try.f16.isInstance Try.pinned.checked.prog Rows.soundCrossesMatchSpecRow.origin Rows.soundCrossesMatchSpecRow.targs := of_decide_eq_true (by kernel_rfl)
theorem lawCross_wrap : Try.f16.isWrapper Try.pinned.checked.prog Rows.soundCrossesMatchSpecRow.wrapper Rows.soundCrossesMatchSpecRow.mainSum := by unfold Func.isWrapper; first | (rw [if_pos (by decide +kernel)]; kernel_rfl) | (rw [if_neg (by decide +kernel)]; exact ⟨rfl, rfl⟩)
theorem lawCross_named : Try.pinned.checked.prog.funcNamed Rows.soundCrossesMatchSpecRow.func = some 16 := by kernel_rfl
theorem lawCross_holds : Rows.SoundCrossesMatchSpecSaid :=
  OpenClaim.holds_of_wide 16 Try.f16 rfl rfl rfl rfl rfl rfl rfl ⟨rfl, rfl, rfl, rfl, rfl⟩ rfl rfl rfl rfl rfl lawCross_named Try.func16 lawCross_closed lawCross_inst lawCross_wrap
    (fun os started H enc _ => lawCross_lifted os started H enc)
end Go.Proofs.Ytpnbkkpbgpcgiaa
