/- What is proved: sound.Fade is as specified, with all errors (SoundFadesMatchSpec), for every sound, span and shape; no condition. -/
import Derived.Test.YtpnbkkpbgpcgiaaLawFade0
set_option linter.unusedSimpArgs false
set_option linter.unusedVariables false
namespace Go.Proofs.Ytpnbkkpbgpcgiaa
open Go.ChangeShapes Go.WideShapes Go.ChangeAt Go.RowKit Go.Dw
theorem lawFade_closed : joinedFacts Try.pinned.checked.prog 11 Try.f11 Rows.soundFadesMatchSpecSpec Rows.soundFadesMatchSpecRow = true := by kernel_rfl
theorem lawFade_inst : Try.f11.isInstance Try.pinned.checked.prog Rows.soundFadesMatchSpecRow.origin Rows.soundFadesMatchSpecRow.targs := of_decide_eq_true (by kernel_rfl)
theorem lawFade_wrap : Try.f11.isWrapper Try.pinned.checked.prog Rows.soundFadesMatchSpecRow.wrapper Rows.soundFadesMatchSpecRow.mainSum := by unfold Func.isWrapper; first | (rw [if_pos (by decide +kernel)]; kernel_rfl) | (rw [if_neg (by decide +kernel)]; exact ⟨rfl, rfl⟩)
theorem lawFade_named : Try.pinned.checked.prog.funcNamed Rows.soundFadesMatchSpecRow.func = some 11 := by kernel_rfl
theorem lawFade_holds : Rows.SoundFadesMatchSpecSaid :=
  OpenClaim.holds_of_wide 11 Try.f11 rfl rfl rfl rfl rfl rfl rfl ⟨rfl, rfl, rfl, rfl, rfl⟩ rfl rfl rfl rfl rfl lawFade_named Try.func11 lawFade_closed lawFade_inst lawFade_wrap
    (fun os started H enc _ => lawFade_lifted os started H enc)
end Go.Proofs.Ytpnbkkpbgpcgiaa
