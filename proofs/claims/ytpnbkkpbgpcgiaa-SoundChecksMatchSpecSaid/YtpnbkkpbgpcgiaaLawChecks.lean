/- What is proved: sound.Check, Silence, Reversed, Peak and Digest are as specified, with all errors (SoundChecksMatchSpec), for all sounds and all whole numbers; no condition. -/
import Derived.Test.YtpnbkkpbgpcgiaaChecks
set_option linter.unusedSimpArgs false
set_option linter.unusedVariables false
namespace Go.Proofs.Ytpnbkkpbgpcgiaa
open Go.ChangeShapes Go.WideShapes Go.ChangeAt Go.RowKit Go.Dw
theorem lawChecks_closed : joinedFacts Try.pinned.checked.prog 10 Try.f10 Rows.soundChecksMatchSpecSpec Rows.soundChecksMatchSpecRow = true := by kernel_rfl
theorem lawChecks_inst : Try.f10.isInstance Try.pinned.checked.prog Rows.soundChecksMatchSpecRow.origin Rows.soundChecksMatchSpecRow.targs := of_decide_eq_true (by kernel_rfl)
theorem lawChecks_wrap : Try.f10.isWrapper Try.pinned.checked.prog Rows.soundChecksMatchSpecRow.wrapper Rows.soundChecksMatchSpecRow.mainSum := by unfold Func.isWrapper; first | (rw [if_pos (by decide +kernel)]; kernel_rfl) | (rw [if_neg (by decide +kernel)]; exact ⟨rfl, rfl⟩)
theorem lawChecks_named : Try.pinned.checked.prog.funcNamed Rows.soundChecksMatchSpecRow.func = some 10 := by kernel_rfl
theorem lawChecks_holds : Rows.SoundChecksMatchSpecSaid :=
  OpenClaim.holds_of_wide 10 Try.f10 rfl rfl rfl rfl rfl rfl rfl ⟨rfl, rfl, rfl, rfl, rfl⟩ rfl rfl rfl rfl rfl lawChecks_named Try.func10 lawChecks_closed lawChecks_inst lawChecks_wrap
    (fun os started H enc _ => lawChecks_lifted os started H enc)
end Go.Proofs.Ytpnbkkpbgpcgiaa
