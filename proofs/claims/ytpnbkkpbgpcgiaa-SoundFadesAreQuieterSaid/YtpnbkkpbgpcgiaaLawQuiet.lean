/- What is proved: a fade makes no sample greater, changes nothing outside, and is turned around with its sound (SoundFadesAreQuieter), for every sound, span and shape; no condition. -/
import Derived.Test.YtpnbkkpbgpcgiaaQuiet2
set_option linter.unusedSimpArgs false
set_option linter.unusedVariables false
namespace Go.Proofs.Ytpnbkkpbgpcgiaa
open Go.ChangeShapes Go.WideShapes Go.ChangeAt Go.RowKit Go.Dw
theorem lawQuiet_closed : joinedFacts Try.pinned.checked.prog 12 Try.f12 Rows.soundFadesAreQuieterSpec Rows.soundFadesAreQuieterRow = true := by kernel_rfl
theorem lawQuiet_inst : Try.f12.isInstance Try.pinned.checked.prog Rows.soundFadesAreQuieterRow.origin Rows.soundFadesAreQuieterRow.targs := of_decide_eq_true (by kernel_rfl)
theorem lawQuiet_wrap : Try.f12.isWrapper Try.pinned.checked.prog Rows.soundFadesAreQuieterRow.wrapper Rows.soundFadesAreQuieterRow.mainSum := by unfold Func.isWrapper; first | (rw [if_pos (by decide +kernel)]; kernel_rfl) | (rw [if_neg (by decide +kernel)]; exact ⟨rfl, rfl⟩)
theorem lawQuiet_named : Try.pinned.checked.prog.funcNamed Rows.soundFadesAreQuieterRow.func = some 12 := by kernel_rfl
theorem lawQuiet_holds : Rows.SoundFadesAreQuieterSaid :=
  OpenClaim.holds_of_wide 12 Try.f12 rfl rfl rfl rfl rfl rfl rfl ⟨rfl, rfl, rfl, rfl, rfl⟩ rfl rfl rfl rfl rfl lawQuiet_named Try.func12 lawQuiet_closed lawQuiet_inst lawQuiet_wrap
    (fun os started H enc _ => lawQuiet_lifted os started H enc)
end Go.Proofs.Ytpnbkkpbgpcgiaa
