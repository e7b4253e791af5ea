/- What is rounded down is not greater, what is rounded up not less, both differ by at most 1, and the nearest one is one of them: for all whole numbers that the row admits. -/
import Derived.Test.YtcjdmffflepplaaDoorLrn2
import Derived.Test.YtcjdmffflepplaaDoorCards
import Derived.Test.YtcjdmffflepplaaDoorTie
import Derived.SevenTiedAt
set_option linter.unusedSimpArgs false
set_option linter.unusedVariables false
namespace Go.Proofs.YtcjdmffflepplaaDoor
open Go.ChangeShapes Go.WideShapes Go.ChangeAt Go.RowKit Go.Joins Go.Deep Go.Dw
theorem lawRn_std : ∀ (j : Nat) t, Tryd.f5.params[j]? = some t → Tryd.prog.wantsStandIn t = false := by
  intro j t ht
  have hm : t ∈ Tryd.f5.params.toList := Array.mem_toList_iff.2 (Array.mem_of_getElem? ht)
  exact List.all_eq_true.1 (show (Tryd.f5.params.toList.all fun t => Tryd.prog.wantsStandIn t == false) = true by kernel_rfl) t hm |> (by simpa using ·)
theorem lawRn_fn : Tryd.prog.funcNamed Rows.clockRoundsAreNearRow.func = some 5 := by kernel_rfl
theorem lawRn_looks : Tryd.pinned.checked.prog.looks [] = true := by kernel_rfl
theorem lawRn_card : Rows.ClockRoundsAreNearCardSaid :=
  Claim7.holds_tied_plain_at .later [] [.data, .data, .data] true (true, "f6f2de736da74c8226dbc140713fb1eea982a2075eaa1778d04f247c1623579a") true
    lawRn_holds (fun _ h => by cases h) (by kernel_rfl) (fun _ h => by cases h) clockRoundsAreNear_row_tie rfl ⟨rfl, rfl⟩ (by kernel_rfl) rfl
    (fun f fn hf hfn => by
      obtain rfl := Option.some.inj (lawRn_fn.symm.trans hf)
      obtain rfl := Option.some.inj (Tryd.func5.symm.trans hfn)
      exact ⟨lawRn_looks.symm, lawRn_std⟩)
    (by kernel_rfl)
#print axioms lawRn_card
end Go.Proofs.YtcjdmffflepplaaDoor
