/- What is proved: an edit with another one in it sounds like an edit with the rendered other one in it, as long as this one was rendered without rounding and clipping (TopComposedEditsSoundAlike), for any edits and media; no condition. -/
import Derived.Test.YtkmcohnhanphdaaGreatDoorLco2
import Derived.Test.YtkmcohnhanphdaaGreatDoorCards
import Derived.Test.YtkmcohnhanphdaaGreatDoorTie
import Derived.SevenTiedAt
set_option linter.unusedSimpArgs false
set_option linter.unusedVariables false
namespace Go.Proofs.YtkmcohnhanphdaaGreatDoor
open Go.ChangeShapes Go.WideShapes Go.ChangeAt Go.RowKit Go.Joins Go.Deep Go.Dw
theorem lawCo_std : ∀ (j : Nat) t, Tryz.f3.params[j]? = some t → Tryz.prog.wantsStandIn t = false := by
  intro j t ht
  have hm : t ∈ Tryz.f3.params.toList := Array.mem_toList_iff.2 (Array.mem_of_getElem? ht)
  exact List.all_eq_true.1 (show (Tryz.f3.params.toList.all fun t => Tryz.prog.wantsStandIn t == false) = true by kernel_rfl) t hm |> (by simpa using ·)
theorem lawCo_fn : Tryz.prog.funcNamed Rows.topComposedEditsSoundAlikeRow.func = some 3 := by kernel_rfl
theorem lawCo_looks : Tryz.pinned.checked.prog.looks [] = false := by kernel_rfl
theorem lawCo_card : Rows.TopComposedEditsSoundAlikeCardSaid :=
  Claim7.holds_tied_plain_at .later [] [.data, .pinned] true (true, "e9998a977ad5cceeebc101178f0ebc6862401b933fabd34258dd593edeb327f7") false
    lawCo_holds (fun _ h => by cases h) (by kernel_rfl) (fun _ h => by cases h) topComposedEditsSoundAlike_row_tie rfl ⟨rfl, rfl⟩ (by kernel_rfl) rfl
    (fun f fn hf hfn => by
      obtain rfl := Option.some.inj (lawCo_fn.symm.trans hf)
      obtain rfl := Option.some.inj (Tryz.func3.symm.trans hfn)
      exact ⟨lawCo_looks.symm, lawCo_std⟩)
    (by kernel_rfl)
#print axioms lawCo_card
end Go.Proofs.YtkmcohnhanphdaaGreatDoor
