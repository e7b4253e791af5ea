/- Fit is as specified, for every row of pairs (ClockFitMatchesSpec); no condition. -/
import Derived.Test.YtocbogdjlapogaaGreatDoorLfm2
import Derived.Test.YtocbogdjlapogaaGreatDoorCards
import Derived.Test.YtocbogdjlapogaaGreatDoorTie
import Derived.SevenTiedAt
set_option linter.unusedSimpArgs false
set_option linter.unusedVariables false
namespace Go.Proofs.YtocbogdjlapogaaGreatDoor
open Go.ChangeShapes Go.WideShapes Go.ChangeAt Go.RowKit Go.Joins Go.Deep Go.Dw
theorem lawFm_std : ∀ (j : Nat) t, Tryz.f3.params[j]? = some t → Tryz.prog.wantsStandIn t = false := by
  intro j t ht
  have hm : t ∈ Tryz.f3.params.toList := Array.mem_toList_iff.2 (Array.mem_of_getElem? ht)
  exact List.all_eq_true.1 (show (Tryz.f3.params.toList.all fun t => Tryz.prog.wantsStandIn t == false) = true by kernel_rfl) t hm |> (by simpa using ·)
theorem lawFm_fn : Tryz.prog.funcNamed Rows.clockFitMatchesSpecRow.func = some 3 := by kernel_rfl
theorem lawFm_looks : Tryz.pinned.checked.prog.looks [] = true := by kernel_rfl
theorem lawFm_card : Rows.ClockFitMatchesSpecCardSaid :=
  Claim7.holds_tied_plain_at .later [] [.data, .data, .data, .sentinel, .sentinel] true (true, "192738c8ac8ef24831041a14b6706c770dc581c780df9cb4297f20ede55db314") true
    lawFm_holds (fun _ h => by cases h) (by kernel_rfl) (fun _ h => by cases h) clockFitMatchesSpec_row_tie rfl ⟨rfl, rfl⟩ (by kernel_rfl) rfl
    (fun f fn hf hfn => by
      obtain rfl := Option.some.inj (lawFm_fn.symm.trans hf)
      obtain rfl := Option.some.inj (Tryz.func3.symm.trans hfn)
      exact ⟨lawFm_looks.symm, lawFm_std⟩)
    (by kernel_rfl)
#print axioms lawFm_card
end Go.Proofs.YtocbogdjlapogaaGreatDoor
