/- The samples of ticks come back: the tick of the sample of a tick is the greatest one with this sample, for every map of tempos, rate and tick that the row admits (its listed tables read as the program's text lays them: the card ties them). -/
import Derived.Test.YtdoffngamppkkaaDoorLTick2
import Derived.Test.YtdoffngamppkkaaDoorCards
import Derived.Test.YtdoffngamppkkaaDoorTie
import Derived.SevenTiedAt
set_option linter.unusedSimpArgs false
set_option linter.unusedVariables false
namespace Go.Proofs.YtdoffngamppkkaaDoor
open Go.ChangeShapes Go.WideShapes Go.ChangeAt Go.RowKit Go.Joins Go.Deep Go.Dw
theorem lawTicks_std : ∀ (j : Nat) t, Tryd.f3.params[j]? = some t → Tryd.prog.wantsStandIn t = false := by
  intro j t ht
  have hm : t ∈ Tryd.f3.params.toList := Array.mem_toList_iff.2 (Array.mem_of_getElem? ht)
  exact List.all_eq_true.1 (show (Tryd.f3.params.toList.all fun t => Tryd.prog.wantsStandIn t == false) = true by kernel_rfl) t hm |> (by simpa using ·)
theorem lawTicks_fn : Tryd.prog.funcNamed Rows.clockTicksComeBackRow.func = some 3 := by kernel_rfl
theorem lawTicks_looks : Tryd.pinned.checked.prog.looks [] = true := by kernel_rfl
theorem lawTicks_card : Rows.ClockTicksComeBackCardSaid :=
  Claim7.holds_tied_plain_at .later [] [.data, .data, .data] true (true, "3700ba8f74f557a3e5bcc72f41d941b426a1d34473d4163aa503f27aae85b3bf") true
    lawTicks_holds (fun _ h => by cases h) (by kernel_rfl) (fun _ h => by cases h) clockTicksComeBack_row_tie rfl ⟨rfl, rfl⟩ (by kernel_rfl) rfl
    (fun f fn hf hfn => by
      obtain rfl := Option.some.inj (lawTicks_fn.symm.trans hf)
      obtain rfl := Option.some.inj (Tryd.func3.symm.trans hfn)
      exact ⟨lawTicks_looks.symm, lawTicks_std⟩)
    (by kernel_rfl)
#print axioms lawTicks_card
end Go.Proofs.YtdoffngamppkkaaDoor
