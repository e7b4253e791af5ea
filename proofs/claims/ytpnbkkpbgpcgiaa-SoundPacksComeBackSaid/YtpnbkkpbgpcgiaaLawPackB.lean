/- What is proved: chunks are read as they were written, and no other bytes are read (SoundPacksComeBack), for all lists of chunks and all bytes; no condition. -/
import Derived.Test.YtpnbkkpbgpcgiaaPackB
set_option linter.unusedSimpArgs false
set_option linter.unusedVariables false
namespace Go.Proofs.Ytpnbkkpbgpcgiaa
open Go.ChangeShapes Go.WideShapes Go.ChangeAt Go.RowKit Go.Dw
theorem lawPB_closed : joinedFacts Try.pinned.checked.prog 14 Try.f14 Rows.soundPacksComeBackSpec Rows.soundPacksComeBackRow = true := by kernel_rfl
theorem lawPB_inst : Try.f14.isInstance Try.pinned.checked.prog Rows.soundPacksComeBackRow.origin Rows.soundPacksComeBackRow.targs := of_decide_eq_true (by kernel_rfl)
theorem lawPB_wrap : Try.f14.isWrapper Try.pinned.checked.prog Rows.soundPacksComeBackRow.wrapper Rows.soundPacksComeBackRow.mainSum := by unfold Func.isWrapper; first | (rw [if_pos (by decide +kernel)]; kernel_rfl) | (rw [if_neg (by decide +kernel)]; exact ⟨rfl, rfl⟩)
theorem lawPB_named : Try.pinned.checked.prog.funcNamed Rows.soundPacksComeBackRow.func = some 14 := by kernel_rfl
theorem lawPB_holds : Rows.SoundPacksComeBackSaid :=
  OpenClaim.holds_of_wide 14 Try.f14 rfl rfl rfl rfl rfl rfl rfl ⟨rfl, rfl, rfl, rfl, rfl⟩ rfl rfl rfl rfl rfl lawPB_named Try.func14 lawPB_closed lawPB_inst lawPB_wrap
    (fun os started H enc _ => lawPB_lifted os started H enc)
end Go.Proofs.Ytpnbkkpbgpcgiaa
