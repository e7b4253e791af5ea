/- What is proved: bins of sound.Overview that sound.Coarser puts together are those of greater blocks (SoundOverviewsCoarsen), for all sounds and all whole numbers; no condition. -/
import Derived.Test.YtpnbkkpbgpcgiaaOvLaw
set_option linter.unusedSimpArgs false
set_option linter.unusedVariables false
namespace Go.Proofs.Ytpnbkkpbgpcgiaa
open Go.ChangeShapes Go.WideShapes Go.ChangeAt Go.RowKit Go.Dw
theorem lawOvC_closed : joinedFacts Try.pinned.checked.prog 9 Try.f9 Rows.soundOverviewsCoarsenSpec Rows.soundOverviewsCoarsenRow = true := by kernel_rfl
theorem lawOvC_inst : Try.f9.isInstance Try.pinned.checked.prog Rows.soundOverviewsCoarsenRow.origin Rows.soundOverviewsCoarsenRow.targs := of_decide_eq_true (by kernel_rfl)
theorem lawOvC_wrap : Try.f9.isWrapper Try.pinned.checked.prog Rows.soundOverviewsCoarsenRow.wrapper Rows.soundOverviewsCoarsenRow.mainSum := by unfold Func.isWrapper; first | (rw [if_pos (by decide +kernel)]; kernel_rfl) | (rw [if_neg (by decide +kernel)]; exact ⟨rfl, rfl⟩)
theorem lawOvC_named : Try.pinned.checked.prog.funcNamed Rows.soundOverviewsCoarsenRow.func = some 9 := by kernel_rfl
theorem lawOvC_holds : Rows.SoundOverviewsCoarsenSaid :=
  OpenClaim.holds_of_wide 9 Try.f9 rfl rfl rfl rfl rfl rfl rfl ⟨rfl, rfl, rfl, rfl, rfl⟩ rfl rfl rfl rfl rfl lawOvC_named Try.func9 lawOvC_closed lawOvC_inst lawOvC_wrap
    (fun os started H enc _ => lawOvC_lifted os started H enc)
end Go.Proofs.Ytpnbkkpbgpcgiaa
