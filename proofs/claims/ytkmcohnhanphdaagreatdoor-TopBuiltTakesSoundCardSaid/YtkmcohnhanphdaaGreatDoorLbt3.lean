/- What is proved: an edit that is built from takes sounds as the takes' pieces, joined (TopBuiltTakesSound), for any takes, lengths, picks and media; no condition. -/
import Derived.Test.YtkmcohnhanphdaaGreatDoorVi
import Derived.Test.YtkmcohnhanphdaaGreatDoorCards
import Derived.Test.YtkmcohnhanphdaaGreatDoorTie
import Derived.SevenTiedAt
set_option linter.unusedSimpArgs false
set_option linter.unusedVariables false
namespace Go.Proofs.YtkmcohnhanphdaaGreatDoor
open Go.ChangeShapes Go.WideShapes Go.ChangeAt Go.RowKit Go.Joins Go.Deep Go.Dw
theorem lawBt_std : ∀ (j : Nat) t, Tryz.f4.params[j]? = some t → Tryz.prog.wantsStandIn t = false := by
  intro j t ht
  have hm : t ∈ Tryz.f4.params.toList := Array.mem_toList_iff.2 (Array.mem_of_getElem? ht)
  exact List.all_eq_true.1 (show (Tryz.f4.params.toList.all fun t => Tryz.prog.wantsStandIn t == false) = true by kernel_rfl) t hm |> (by simpa using ·)
theorem lawBt_fn : Tryz.prog.funcNamed Rows.topBuiltTakesSoundRow.func = some 4 := by kernel_rfl
theorem lawBt_looks : Tryz.pinned.checked.prog.looks [] = false := by kernel_rfl
theorem lawBt_card : Rows.TopBuiltTakesSoundCardSaid :=
  Claim7.holds_tied_plain_at .later [] [.data, .pinned] true (true, "e9998a977ad5cceeebc101178f0ebc6862401b933fabd34258dd593edeb327f7") false
    lawBt_holds (fun _ h => by cases h) (by kernel_rfl) (fun _ h => by cases h) topBuiltTakesSound_row_tie rfl ⟨rfl, rfl⟩ (by kernel_rfl) rfl
    (fun f fn hf hfn => by
      obtain rfl := Option.some.inj (lawBt_fn.symm.trans hf)
      obtain rfl := Option.some.inj (Tryz.func4.symm.trans hfn)
      exact ⟨lawBt_looks.symm, lawBt_std⟩)
    (by kernel_rfl)
#print axioms lawBt_card
end Go.Proofs.YtkmcohnhanphdaaGreatDoor
