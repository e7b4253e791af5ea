/- CheckTempo, SampleAt and TickAt are as the document says: for every map of tempos, rate, tick and sample that the row admits. -/
import Derived.Test.YthjmhdnamhifjaaDoorLtp2
import Derived.Test.YthjmhdnamhifjaaDoorCards
import Derived.Test.YthjmhdnamhifjaaDoorTie
import Derived.SevenTiedAt
set_option linter.unusedSimpArgs false
set_option linter.unusedVariables false
namespace Go.Proofs.YthjmhdnamhifjaaDoor
open Go.ChangeShapes Go.WideShapes Go.ChangeAt Go.RowKit Go.Joins Go.Deep Go.Dw
theorem lawTp_std : ∀ (j : Nat) t, Tryd.f4.params[j]? = some t → Tryd.prog.wantsStandIn t = false := by
  intro j t ht
  have hm : t ∈ Tryd.f4.params.toList := Array.mem_toList_iff.2 (Array.mem_of_getElem? ht)
  exact List.all_eq_true.1 (show (Tryd.f4.params.toList.all fun t => Tryd.prog.wantsStandIn t == false) = true by kernel_rfl) t hm |> (by simpa using ·)
theorem lawTp_fn : Tryd.prog.funcNamed Rows.clockTempoMatchesSpecRow.func = some 4 := by kernel_rfl
theorem lawTp_looks : Tryd.pinned.checked.prog.looks [] = true := by kernel_rfl
theorem lawTp_card : Rows.ClockTempoMatchesSpecCardSaid :=
  Claim7.holds_tied_plain_at .later [] [.data, .data, .data, .sentinel, .sentinel] true (true, "d0984b96af1636374cf75be1ca2ab5d1911bb0ff06126c62703a62265a7b278c") true
    lawTp_holds (fun _ h => by cases h) (by kernel_rfl) (fun _ h => by cases h) clockTempoMatchesSpec_row_tie rfl ⟨rfl, rfl⟩ (by kernel_rfl) rfl
    (fun f fn hf hfn => by
      obtain rfl := Option.some.inj (lawTp_fn.symm.trans hf)
      obtain rfl := Option.some.inj (Tryd.func4.symm.trans hfn)
      exact ⟨lawTp_looks.symm, lawTp_std⟩)
    (by kernel_rfl)
#print axioms lawTp_card
end Go.Proofs.YthjmhdnamhifjaaDoor
