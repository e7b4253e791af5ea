/- RatioOf is as specified, for all whole numbers that the row admits. -/
import Derived.Test.YtcjdmffflepplaaDoorLro2
import Derived.Test.YtcjdmffflepplaaDoorCards
import Derived.Test.YtcjdmffflepplaaDoorTie
import Derived.SevenTiedAt
set_option linter.unusedSimpArgs false
set_option linter.unusedVariables false
namespace Go.Proofs.YtcjdmffflepplaaDoor
open Go.ChangeShapes Go.WideShapes Go.ChangeAt Go.RowKit Go.Joins Go.Deep Go.Dw
theorem lawRo_std : ∀ (j : Nat) t, Tryd.f6.params[j]? = some t → Tryd.prog.wantsStandIn t = false := by
  intro j t ht
  have hm : t ∈ Tryd.f6.params.toList := Array.mem_toList_iff.2 (Array.mem_of_getElem? ht)
  exact List.all_eq_true.1 (show (Tryd.f6.params.toList.all fun t => Tryd.prog.wantsStandIn t == false) = true by kernel_rfl) t hm |> (by simpa using ·)
theorem lawRo_fn : Tryd.prog.funcNamed Rows.clockRatioOfMatchesSpecRow.func = some 6 := by kernel_rfl
theorem lawRo_looks : Tryd.pinned.checked.prog.looks [] = true := by kernel_rfl
theorem lawRo_card : Rows.ClockRatioOfMatchesSpecCardSaid :=
  Claim7.holds_tied_plain_at .later [] [.data, .data, .data, .sentinel, .sentinel] true (true, "f6f2de736da74c8226dbc140713fb1eea982a2075eaa1778d04f247c1623579a") true
    lawRo_holds (fun _ h => by cases h) (by kernel_rfl) (fun _ h => by cases h) clockRatioOfMatchesSpec_row_tie rfl ⟨rfl, rfl⟩ (by kernel_rfl) rfl
    (fun f fn hf hfn => by
      obtain rfl := Option.some.inj (lawRo_fn.symm.trans hf)
      obtain rfl := Option.some.inj (Tryd.func6.symm.trans hfn)
      exact ⟨lawRo_looks.symm, lawRo_std⟩)
    (by kernel_rfl)
#print axioms lawRo_card
end Go.Proofs.YtcjdmffflepplaaDoor
