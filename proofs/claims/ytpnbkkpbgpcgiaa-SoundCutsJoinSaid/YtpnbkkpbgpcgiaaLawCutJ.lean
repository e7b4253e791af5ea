/- What is proved: what is cut at a sample can be joined again, also turned around (SoundCutsJoin), for every sound and every number; no condition. -/
import Derived.Test.YtpnbkkpbgpcgiaaCutJ2
set_option linter.unusedSimpArgs false
set_option linter.unusedVariables false
namespace Go.Proofs.Ytpnbkkpbgpcgiaa
open Go.ChangeShapes Go.WideShapes Go.ChangeAt Go.RowKit Go.Dw
theorem lawCutJ_closed : joinedFacts Try.pinned.checked.prog 17 Try.f17 Rows.soundCutsJoinSpec Rows.soundCutsJoinRow = true := by kernel_rfl
theorem lawCutJ_inst : Try.f17.isInstance Try.pinned.checked.prog Rows.soundCutsJoinRow.origin Rows.soundCutsJoinRow.targs := of_decide_eq_true (by kernel_rfl)
theorem lawCutJ_wrap : Try.f17.isWrapper Try.pinned.checked.prog Rows.soundCutsJoinRow.wrapper Rows.soundCutsJoinRow.mainSum := by unfold Func.isWrapper; first | (rw [if_pos (by decide +kernel)]; kernel_rfl) | (rw [if_neg (by decide +kernel)]; exact ⟨rfl, rfl⟩)
theorem lawCutJ_named : Try.pinned.checked.prog.funcNamed Rows.soundCutsJoinRow.func = some 17 := by kernel_rfl
theorem lawCutJ_holds : Rows.SoundCutsJoinSaid :=
  OpenClaim.holds_of_wide 17 Try.f17 rfl rfl rfl rfl rfl rfl rfl ⟨rfl, rfl, rfl, rfl, rfl⟩ rfl rfl rfl rfl rfl lawCutJ_named Try.func17 lawCutJ_closed lawCutJ_inst lawCutJ_wrap
    (fun os started H enc _ => lawCutJ_lifted os started H enc)
end Go.Proofs.Ytpnbkkpbgpcgiaa
