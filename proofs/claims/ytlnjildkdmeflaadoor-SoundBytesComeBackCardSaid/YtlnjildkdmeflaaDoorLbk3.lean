/- What is proved: a sound is read as it was written, with its notes, and no other bytes are read (SoundBytesComeBack), for any sound, any number of bits, any notes and any bytes; no condition. -/
import Derived.Test.YtlnjildkdmeflaaDoorLbk2
import Derived.Test.YtlnjildkdmeflaaDoorCards
import Derived.Test.YtlnjildkdmeflaaDoorTie
import Derived.SevenTiedAt
set_option linter.unusedSimpArgs false
set_option linter.unusedVariables false
namespace Go.Proofs.YtlnjildkdmeflaaDoor
open Go.ChangeShapes Go.WideShapes Go.ChangeAt Go.RowKit Go.Joins Go.Deep Go.Dw
theorem lawBk_std : ∀ (j : Nat) t, Tryd.f4.params[j]? = some t → Tryd.prog.wantsStandIn t = false := by
  intro j t ht
  have hm : t ∈ Tryd.f4.params.toList := Array.mem_toList_iff.2 (Array.mem_of_getElem? ht)
  exact List.all_eq_true.1 (show (Tryd.f4.params.toList.all fun t => Tryd.prog.wantsStandIn t == false) = true by kernel_rfl) t hm |> (by simpa using ·)
theorem lawBk_fn : Tryd.prog.funcNamed Rows.soundBytesComeBackRow.func = some 4 := by kernel_rfl
theorem lawBk_looks : Tryd.pinned.checked.prog.looks [] = false := by kernel_rfl
theorem lawBk_card : Rows.SoundBytesComeBackCardSaid :=
  Claim7.holds_tied_plain_at .later [] [.data, .pinned] true (true, "ffe667dbba086dce523bcdfdc36f3502ce006988f007f81e1349449ac0761767") false
    lawBk_holds (fun _ h => by cases h) (by kernel_rfl) (fun _ h => by cases h) soundBytesComeBack_row_tie rfl ⟨rfl, rfl⟩ (by kernel_rfl) rfl
    (fun f fn hf hfn => by
      obtain rfl := Option.some.inj (lawBk_fn.symm.trans hf)
      obtain rfl := Option.some.inj (Tryd.func4.symm.trans hfn)
      exact ⟨lawBk_looks.symm, lawBk_std⟩)
    (by kernel_rfl)
#print axioms lawBk_card
end Go.Proofs.YtlnjildkdmeflaaDoor
