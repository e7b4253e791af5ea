/- What is proved: sound.Overview and sound.Coarser are as specified, with all errors (SoundOverviewsMatchSpec), for all sounds, all lists of bins and all whole numbers; no condition. -/
import Derived.Test.YtpnbkkpbgpcgiaaOvM
set_option linter.unusedSimpArgs false
set_option linter.unusedVariables false
namespace Go.Proofs.Ytpnbkkpbgpcgiaa
open Go.ChangeShapes Go.WideShapes Go.ChangeAt Go.RowKit Go.Dw
theorem lawOv_closed : joinedFacts Try.pinned.checked.prog 8 Try.f8 Rows.soundOverviewsMatchSpecSpec Rows.soundOverviewsMatchSpecRow = true := by kernel_rfl
theorem lawOv_inst : Try.f8.isInstance Try.pinned.checked.prog Rows.soundOverviewsMatchSpecRow.origin Rows.soundOverviewsMatchSpecRow.targs := of_decide_eq_true (by kernel_rfl)
theorem lawOv_wrap : Try.f8.isWrapper Try.pinned.checked.prog Rows.soundOverviewsMatchSpecRow.wrapper Rows.soundOverviewsMatchSpecRow.mainSum := by unfold Func.isWrapper; first | (rw [if_pos (by decide +kernel)]; kernel_rfl) | (rw [if_neg (by decide +kernel)]; exact ⟨rfl, rfl⟩)
theorem lawOv_named : Try.pinned.checked.prog.funcNamed Rows.soundOverviewsMatchSpecRow.func = some 8 := by kernel_rfl
theorem lawOv_holds : Rows.SoundOverviewsMatchSpecSaid :=
  OpenClaim.holds_of_wide 8 Try.f8 rfl rfl rfl rfl rfl rfl rfl ⟨rfl, rfl, rfl, rfl, rfl⟩ rfl rfl rfl rfl rfl lawOv_named Try.func8 lawOv_closed lawOv_inst lawOv_wrap
    (fun os started H enc _ => lawOv_lifted os started H enc)
end Go.Proofs.Ytpnbkkpbgpcgiaa
