/- No other line is nearer to the pairs than that of Fit: for every row of pairs and all numbers that the row admits. -/
import Derived.Test.YthgjgiccoobcgaaDoorLfb2
import Derived.Test.YthgjgiccoobcgaaDoorCards
import Derived.Test.YthgjgiccoobcgaaDoorTie
import Derived.SevenTiedAt
set_option linter.unusedSimpArgs false
set_option linter.unusedVariables false
namespace Go.Proofs.YthgjgiccoobcgaaDoor
open Go.ChangeShapes Go.WideShapes Go.ChangeAt Go.RowKit Go.Joins Go.Deep Go.Dw
theorem lawFb_std : ∀ (j : Nat) t, Tryd.f4.params[j]? = some t → Tryd.prog.wantsStandIn t = false := by
  intro j t ht
  have hm : t ∈ Tryd.f4.params.toList := Array.mem_toList_iff.2 (Array.mem_of_getElem? ht)
  exact List.all_eq_true.1 (show (Tryd.f4.params.toList.all fun t => Tryd.prog.wantsStandIn t == false) = true by kernel_rfl) t hm |> (by simpa using ·)
theorem lawFb_fn : Tryd.prog.funcNamed Rows.clockFitIsBestRow.func = some 4 := by kernel_rfl
theorem lawFb_looks : Tryd.pinned.checked.prog.looks [] = true := by kernel_rfl
theorem lawFb_card : Rows.ClockFitIsBestCardSaid :=
  Claim7.holds_tied_plain_at .later [] [.data, .data, .data, .sentinel, .sentinel] true (true, "9ec8b62e8da2ccb9ac50cac95a4a6801c5c6debb0d5a1ec1650480b9c35aec0f") true
    lawFb_holds (fun _ h => by cases h) (by kernel_rfl) (fun _ h => by cases h) clockFitIsBest_row_tie rfl ⟨rfl, rfl⟩ (by kernel_rfl) rfl
    (fun f fn hf hfn => by
      obtain rfl := Option.some.inj (lawFb_fn.symm.trans hf)
      obtain rfl := Option.some.inj (Tryd.func4.symm.trans hfn)
      exact ⟨lawFb_looks.symm, lawFb_std⟩)
    (by kernel_rfl)
#print axioms lawFb_card
end Go.Proofs.YthgjgiccoobcgaaDoor
