/- Gain is as the document says, with all errors: for every sound and number that the row admits. -/
import Derived.Test.YtnhmhjhfoonakaaGreatDoorLga2
import Derived.Test.YtnhmhjhfoonakaaGreatDoorCards
import Derived.Test.YtnhmhjhfoonakaaGreatDoorTie
import Derived.SevenTiedAt
set_option linter.unusedSimpArgs false
set_option linter.unusedVariables false
namespace Go.Proofs.YtnhmhjhfoonakaaGreatDoor
open Go.ChangeShapes Go.WideShapes Go.ChangeAt Go.RowKit Go.Joins Go.Deep Go.Dw
theorem lawGa_std : ∀ (j : Nat) t, Tryz.f3.params[j]? = some t → Tryz.prog.wantsStandIn t = false := by
  intro j t ht
  have hm : t ∈ Tryz.f3.params.toList := Array.mem_toList_iff.2 (Array.mem_of_getElem? ht)
  exact List.all_eq_true.1 (show (Tryz.f3.params.toList.all fun t => Tryz.prog.wantsStandIn t == false) = true by kernel_rfl) t hm |> (by simpa using ·)
theorem lawGa_fn : Tryz.prog.funcNamed Rows.soundGainsMatchSpecRow.func = some 3 := by kernel_rfl
theorem lawGa_looks : Tryz.pinned.checked.prog.looks [] = true := by kernel_rfl
theorem lawGa_card : Rows.SoundGainsMatchSpecCardSaid :=
  Claim7.holds_tied_plain_at .later [] [.data, .data, .data, .sentinel, .sentinel] true (true, "2ce119966605dda47bf349967bf944645bf63a23918d724dc8bfa6a57fcb656d") true
    lawGa_holds (fun _ h => by cases h) (by kernel_rfl) (fun _ h => by cases h) soundGainsMatchSpec_row_tie rfl ⟨rfl, rfl⟩ (by kernel_rfl) rfl
    (fun f fn hf hfn => by
      obtain rfl := Option.some.inj (lawGa_fn.symm.trans hf)
      obtain rfl := Option.some.inj (Tryz.func3.symm.trans hfn)
      exact ⟨lawGa_looks.symm, lawGa_std⟩)
    (by kernel_rfl)
#print axioms lawGa_card
end Go.Proofs.YtnhmhjhfoonakaaGreatDoor
