/- Sums and products of ratios do not depend on the order, products of sums are sums of products, and a number times its inverse is 1: for any three ratios, right or not, that the row admits. -/
import Derived.Test.YtcjdmffflepplaaDoorLsu2
import Derived.Test.YtcjdmffflepplaaDoorCards
import Derived.Test.YtcjdmffflepplaaDoorTie
import Derived.SevenTiedAt
set_option linter.unusedSimpArgs false
set_option linter.unusedVariables false
namespace Go.Proofs.YtcjdmffflepplaaDoor
open Go.ChangeShapes Go.WideShapes Go.ChangeAt Go.RowKit Go.Joins Go.Deep Go.Dw
theorem lawSums_std : ∀ (j : Nat) t, Tryd.f4.params[j]? = some t → Tryd.prog.wantsStandIn t = false := by
  intro j t ht
  have hm : t ∈ Tryd.f4.params.toList := Array.mem_toList_iff.2 (Array.mem_of_getElem? ht)
  exact List.all_eq_true.1 (show (Tryd.f4.params.toList.all fun t => Tryd.prog.wantsStandIn t == false) = true by kernel_rfl) t hm |> (by simpa using ·)
theorem lawSums_fn : Tryd.prog.funcNamed Rows.clockSumsAreExactRow.func = some 4 := by kernel_rfl
theorem lawSums_looks : Tryd.pinned.checked.prog.looks [] = true := by kernel_rfl
theorem lawSums_card : Rows.ClockSumsAreExactCardSaid :=
  Claim7.holds_tied_plain_at .later [] [.data, .data, .data] true (true, "f6f2de736da74c8226dbc140713fb1eea982a2075eaa1778d04f247c1623579a") true
    lawSums_holds (fun _ h => by cases h) (by kernel_rfl) (fun _ h => by cases h) clockSumsAreExact_row_tie rfl ⟨rfl, rfl⟩ (by kernel_rfl) rfl
    (fun f fn hf hfn => by
      obtain rfl := Option.some.inj (lawSums_fn.symm.trans hf)
      obtain rfl := Option.some.inj (Tryd.func4.symm.trans hfn)
      exact ⟨lawSums_looks.symm, lawSums_std⟩)
    (by kernel_rfl)
#print axioms lawSums_card
end Go.Proofs.YtcjdmffflepplaaDoor
