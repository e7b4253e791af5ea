/- The way from one clock to the other goes through all pairs, never falls, and is turned by turning the pairs: for every row of pairs and two samples that the row admits. -/
import Derived.Test.YthjmhdnamhifjaaDoorLac2
import Derived.Test.YthjmhdnamhifjaaDoorCards
import Derived.Test.YthjmhdnamhifjaaDoorTie
import Derived.SevenTiedAt
set_option linter.unusedSimpArgs false
set_option linter.unusedVariables false
namespace Go.Proofs.YthjmhdnamhifjaaDoor
open Go.ChangeShapes Go.WideShapes Go.ChangeAt Go.RowKit Go.Joins Go.Deep Go.Dw
theorem lawAc_std : ∀ (j : Nat) t, Tryd.f3.params[j]? = some t → Tryd.prog.wantsStandIn t = false := by
  intro j t ht
  have hm : t ∈ Tryd.f3.params.toList := Array.mem_toList_iff.2 (Array.mem_of_getElem? ht)
  exact List.all_eq_true.1 (show (Tryd.f3.params.toList.all fun t => Tryd.prog.wantsStandIn t == false) = true by kernel_rfl) t hm |> (by simpa using ·)
theorem lawAc_fn : Tryd.prog.funcNamed Rows.clockAcrossGoesThroughRow.func = some 3 := by kernel_rfl
theorem lawAc_looks : Tryd.pinned.checked.prog.looks [] = true := by kernel_rfl
theorem lawAc_card : Rows.ClockAcrossGoesThroughCardSaid :=
  Claim7.holds_tied_plain_at .later [] [.data, .data, .data] true (true, "d0984b96af1636374cf75be1ca2ab5d1911bb0ff06126c62703a62265a7b278c") true
    lawAc_holds (fun _ h => by cases h) (by kernel_rfl) (fun _ h => by cases h) clockAcrossGoesThrough_row_tie rfl ⟨rfl, rfl⟩ (by kernel_rfl) rfl
    (fun f fn hf hfn => by
      obtain rfl := Option.some.inj (lawAc_fn.symm.trans hf)
      obtain rfl := Option.some.inj (Tryd.func3.symm.trans hfn)
      exact ⟨lawAc_looks.symm, lawAc_std⟩)
    (by kernel_rfl)
#print axioms lawAc_card
end Go.Proofs.YthjmhdnamhifjaaDoor
