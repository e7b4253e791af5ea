/- What is proved: sound.Pack and sound.Chunks are as specified, for any bytes (SoundPacksMatchSpec), for all lists of chunks; no condition. -/
import Derived.Test.YtpnbkkpbgpcgiaaPackM
set_option linter.unusedSimpArgs false
set_option linter.unusedVariables false
namespace Go.Proofs.Ytpnbkkpbgpcgiaa
open Go.ChangeShapes Go.WideShapes Go.ChangeAt Go.RowKit Go.Dw
theorem lawPM_closed : joinedFacts Try.pinned.checked.prog 13 Try.f13 Rows.soundPacksMatchSpecSpec Rows.soundPacksMatchSpecRow = true := by kernel_rfl
theorem lawPM_inst : Try.f13.isInstance Try.pinned.checked.prog Rows.soundPacksMatchSpecRow.origin Rows.soundPacksMatchSpecRow.targs := of_decide_eq_true (by kernel_rfl)
theorem lawPM_wrap : Try.f13.isWrapper Try.pinned.checked.prog Rows.soundPacksMatchSpecRow.wrapper Rows.soundPacksMatchSpecRow.mainSum := by unfold Func.isWrapper; first | (rw [if_pos (by decide +kernel)]; kernel_rfl) | (rw [if_neg (by decide +kernel)]; exact ⟨rfl, rfl⟩)
theorem lawPM_named : Try.pinned.checked.prog.funcNamed Rows.soundPacksMatchSpecRow.func = some 13 := by kernel_rfl
theorem lawPM_holds : Rows.SoundPacksMatchSpecSaid :=
  OpenClaim.holds_of_wide 13 Try.f13 rfl rfl rfl rfl rfl rfl rfl ⟨rfl, rfl, rfl, rfl, rfl⟩ rfl rfl rfl rfl rfl lawPM_named Try.func13 lawPM_closed lawPM_inst lawPM_wrap
    (fun os started H enc _ => lawPM_lifted os started H enc)
end Go.Proofs.Ytpnbkkpbgpcgiaa
