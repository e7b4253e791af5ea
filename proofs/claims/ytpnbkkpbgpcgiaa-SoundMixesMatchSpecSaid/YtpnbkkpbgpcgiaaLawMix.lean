/- What is proved: sound.Mix and sound.Join are as specified, with all errors (SoundMixesMatchSpec), for all sounds; no condition. -/
import Derived.Test.YtpnbkkpbgpcgiaaMix4
set_option linter.unusedSimpArgs false
set_option linter.unusedVariables false
namespace Go.Proofs.Ytpnbkkpbgpcgiaa
open Go.ChangeShapes Go.WideShapes Go.ChangeAt Go.RowKit Go.Dw
theorem lawMix_closed : joinedFacts Try.pinned.checked.prog 15 Try.f15 Rows.soundMixesMatchSpecSpec Rows.soundMixesMatchSpecRow = true := by kernel_rfl
theorem lawMix_inst : Try.f15.isInstance Try.pinned.checked.prog Rows.soundMixesMatchSpecRow.origin Rows.soundMixesMatchSpecRow.targs := of_decide_eq_true (by kernel_rfl)
theorem lawMix_wrap : Try.f15.isWrapper Try.pinned.checked.prog Rows.soundMixesMatchSpecRow.wrapper Rows.soundMixesMatchSpecRow.mainSum := by unfold Func.isWrapper; first | (rw [if_pos (by decide +kernel)]; kernel_rfl) | (rw [if_neg (by decide +kernel)]; exact ⟨rfl, rfl⟩)
theorem lawMix_named : Try.pinned.checked.prog.funcNamed Rows.soundMixesMatchSpecRow.func = some 15 := by kernel_rfl
theorem lawMix_holds : Rows.SoundMixesMatchSpecSaid :=
  OpenClaim.holds_of_wide 15 Try.f15 rfl rfl rfl rfl rfl rfl rfl ⟨rfl, rfl, rfl, rfl, rfl⟩ rfl rfl rfl rfl rfl lawMix_named Try.func15 lawMix_closed lawMix_inst lawMix_wrap
    (fun os started H enc _ => lawMix_lifted os started H enc)
end Go.Proofs.Ytpnbkkpbgpcgiaa
