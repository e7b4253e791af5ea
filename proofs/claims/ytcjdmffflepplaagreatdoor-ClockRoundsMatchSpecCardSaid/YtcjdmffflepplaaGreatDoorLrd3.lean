/- Decimal and Rounded are as specified, with all errors, for any ratio, right or not, any places and any way that the row admits. -/
import Derived.Test.YtcjdmffflepplaaGreatDoorLrd2
import Derived.Test.YtcjdmffflepplaaGreatDoorCards
import Derived.Test.YtcjdmffflepplaaGreatDoorTie
import Derived.SevenTiedAt
set_option linter.unusedSimpArgs false
set_option linter.unusedVariables false
namespace Go.Proofs.YtcjdmffflepplaaGreatDoor
open Go.ChangeShapes Go.WideShapes Go.ChangeAt Go.RowKit Go.Joins Go.Deep Go.Dw
theorem lawRd_std : ∀ (j : Nat) t, Tryz.f4.params[j]? = some t → Tryz.prog.wantsStandIn t = false := by
  intro j t ht
  have hm : t ∈ Tryz.f4.params.toList := Array.mem_toList_iff.2 (Array.mem_of_getElem? ht)
  exact List.all_eq_true.1 (show (Tryz.f4.params.toList.all fun t => Tryz.prog.wantsStandIn t == false) = true by kernel_rfl) t hm |> (by simpa using ·)
theorem lawRd_fn : Tryz.prog.funcNamed Rows.clockRoundsMatchSpecRow.func = some 4 := by kernel_rfl
theorem lawRd_looks : Tryz.pinned.checked.prog.looks [] = true := by kernel_rfl
theorem lawRd_card : Rows.ClockRoundsMatchSpecCardSaid :=
  Claim7.holds_tied_plain_at .later [] [.data, .data, .data, .sentinel, .sentinel] true (true, "d2962cbdf2fe11ef10ae8a52985246d4b863127b335d9c89432a81ed6e1a72bd") true
    lawRd_holds (fun _ h => by cases h) (by kernel_rfl) (fun _ h => by cases h) clockRoundsMatchSpec_row_tie rfl ⟨rfl, rfl⟩ (by kernel_rfl) rfl
    (fun f fn hf hfn => by
      obtain rfl := Option.some.inj (lawRd_fn.symm.trans hf)
      obtain rfl := Option.some.inj (Tryz.func4.symm.trans hfn)
      exact ⟨lawRd_looks.symm, lawRd_std⟩)
    (by kernel_rfl)
#print axioms lawRd_card
end Go.Proofs.YtcjdmffflepplaaGreatDoor
