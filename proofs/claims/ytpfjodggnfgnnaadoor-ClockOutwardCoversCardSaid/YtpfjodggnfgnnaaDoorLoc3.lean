/- What comes of a set at another rate has all of it: for all rows of spans that the row admits. -/
import Derived.Test.YtpfjodggnfgnnaaDoorLoc2
import Derived.Test.YtpfjodggnfgnnaaDoorCards
import Derived.Test.YtpfjodggnfgnnaaDoorTie
import Derived.SevenTiedAt
set_option linter.unusedSimpArgs false
set_option linter.unusedVariables false
namespace Go.Proofs.YtpfjodggnfgnnaaDoor
open Go.ChangeShapes Go.WideShapes Go.ChangeAt Go.RowKit Go.Joins Go.Deep Go.Dw
theorem lawOc_std : ∀ (j : Nat) t, Tryd.f8.params[j]? = some t → Tryd.prog.wantsStandIn t = false := by
  intro j t ht
  have hm : t ∈ Tryd.f8.params.toList := Array.mem_toList_iff.2 (Array.mem_of_getElem? ht)
  exact List.all_eq_true.1 (show (Tryd.f8.params.toList.all fun t => Tryd.prog.wantsStandIn t == false) = true by kernel_rfl) t hm |> (by simpa using ·)
theorem lawOc_fn : Tryd.prog.funcNamed Rows.clockOutwardCoversRow.func = some 8 := by kernel_rfl
theorem lawOc_looks : Tryd.pinned.checked.prog.looks [] = true := by kernel_rfl
theorem lawOc_card : Rows.ClockOutwardCoversCardSaid :=
  Claim7.holds_tied_plain_at .later [] [.data, .data, .data] true (true, "653924377a755ecf56e07fa7bf5436eb545773ddbf7b404d413f168bedef179f") true
    lawOc_holds (fun _ h => by cases h) (by kernel_rfl) (fun _ h => by cases h) clockOutwardCovers_row_tie rfl ⟨rfl, rfl⟩ (by kernel_rfl) rfl
    (fun f fn hf hfn => by
      obtain rfl := Option.some.inj (lawOc_fn.symm.trans hf)
      obtain rfl := Option.some.inj (Tryd.func8.symm.trans hfn)
      exact ⟨lawOc_looks.symm, lawOc_std⟩)
    (by kernel_rfl)
#print axioms lawOc_card
end Go.Proofs.YtpfjodggnfgnnaaDoor
