/- Power and Crossings are as the document says, with all errors: for every sound, track and span that the row admits. -/
import Derived.Test.YtnhmhjhfoonakaaDoorLme2
import Derived.Test.YtnhmhjhfoonakaaDoorCards
import Derived.Test.YtnhmhjhfoonakaaDoorTie
import Derived.SevenTiedAt
set_option linter.unusedSimpArgs false
set_option linter.unusedVariables false
namespace Go.Proofs.YtnhmhjhfoonakaaDoor
open Go.ChangeShapes Go.WideShapes Go.ChangeAt Go.RowKit Go.Joins Go.Deep Go.Dw
theorem lawMe_std : ∀ (j : Nat) t, Tryd.f5.params[j]? = some t → Tryd.prog.wantsStandIn t = false := by
  intro j t ht
  have hm : t ∈ Tryd.f5.params.toList := Array.mem_toList_iff.2 (Array.mem_of_getElem? ht)
  exact List.all_eq_true.1 (show (Tryd.f5.params.toList.all fun t => Tryd.prog.wantsStandIn t == false) = true by kernel_rfl) t hm |> (by simpa using ·)
theorem lawMe_fn : Tryd.prog.funcNamed Rows.soundMeasuresMatchSpecRow.func = some 5 := by kernel_rfl
theorem lawMe_looks : Tryd.pinned.checked.prog.looks [] = true := by kernel_rfl
theorem lawMe_card : Rows.SoundMeasuresMatchSpecCardSaid :=
  Claim7.holds_tied_plain_at .later [] [.data, .data, .data, .sentinel, .sentinel] true (true, "91448520c2ac0ea1120286c4d2234ded44c4daf7b4957710227555ded8b9398f") true
    lawMe_holds (fun _ h => by cases h) (by kernel_rfl) (fun _ h => by cases h) soundMeasuresMatchSpec_row_tie rfl ⟨rfl, rfl⟩ (by kernel_rfl) rfl
    (fun f fn hf hfn => by
      obtain rfl := Option.some.inj (lawMe_fn.symm.trans hf)
      obtain rfl := Option.some.inj (Tryd.func5.symm.trans hfn)
      exact ⟨lawMe_looks.symm, lawMe_std⟩)
    (by kernel_rfl)
#print axioms lawMe_card
end Go.Proofs.YtnhmhjhfoonakaaDoor
