/- Route is as the document says, with all errors: for every sound and matrix that the row admits. -/
import Derived.Test.YtnhmhjhfoonakaaGreatDoorLro2
import Derived.Test.YtnhmhjhfoonakaaGreatDoorCards
import Derived.Test.YtnhmhjhfoonakaaGreatDoorTie
import Derived.SevenTiedAt
set_option linter.unusedSimpArgs false
set_option linter.unusedVariables false
namespace Go.Proofs.YtnhmhjhfoonakaaGreatDoor
open Go.ChangeShapes Go.WideShapes Go.ChangeAt Go.RowKit Go.Joins Go.Deep Go.Dw
theorem lawRt_std : ∀ (j : Nat) t, Tryz.f4.params[j]? = some t → Tryz.prog.wantsStandIn t = false := by
  intro j t ht
  have hm : t ∈ Tryz.f4.params.toList := Array.mem_toList_iff.2 (Array.mem_of_getElem? ht)
  exact List.all_eq_true.1 (show (Tryz.f4.params.toList.all fun t => Tryz.prog.wantsStandIn t == false) = true by kernel_rfl) t hm |> (by simpa using ·)
theorem lawRt_fn : Tryz.prog.funcNamed Rows.soundRoutesMatchSpecRow.func = some 4 := by kernel_rfl
theorem lawRt_looks : Tryz.pinned.checked.prog.looks [] = true := by kernel_rfl
theorem lawRt_card : Rows.SoundRoutesMatchSpecCardSaid :=
  Claim7.holds_tied_plain_at .later [] [.data, .data, .data, .sentinel, .sentinel] true (true, "2ce119966605dda47bf349967bf944645bf63a23918d724dc8bfa6a57fcb656d") true
    lawRt_holds (fun _ h => by cases h) (by kernel_rfl) (fun _ h => by cases h) soundRoutesMatchSpec_row_tie rfl ⟨rfl, rfl⟩ (by kernel_rfl) rfl
    (fun f fn hf hfn => by
      obtain rfl := Option.some.inj (lawRt_fn.symm.trans hf)
      obtain rfl := Option.some.inj (Tryz.func4.symm.trans hfn)
      exact ⟨lawRt_looks.symm, lawRt_std⟩)
    (by kernel_rfl)
#print axioms lawRt_card
end Go.Proofs.YtnhmhjhfoonakaaGreatDoor
