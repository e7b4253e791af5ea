/- Moved and Outward are as the document says: for every row of spans and all whole numbers that the row admits. -/
import Derived.Test.YthjmhdnamhifjaaGreatDoorLmv2
import Derived.Test.YthjmhdnamhifjaaGreatDoorCards
import Derived.Test.YthjmhdnamhifjaaGreatDoorTie
import Derived.SevenTiedAt
set_option linter.unusedSimpArgs false
set_option linter.unusedVariables false
namespace Go.Proofs.YthjmhdnamhifjaaGreatDoor
open Go.ChangeShapes Go.WideShapes Go.ChangeAt Go.RowKit Go.Joins Go.Deep Go.Dw
theorem lawMv_std : ∀ (j : Nat) t, Tryz.f4.params[j]? = some t → Tryz.prog.wantsStandIn t = false := by
  intro j t ht
  have hm : t ∈ Tryz.f4.params.toList := Array.mem_toList_iff.2 (Array.mem_of_getElem? ht)
  exact List.all_eq_true.1 (show (Tryz.f4.params.toList.all fun t => Tryz.prog.wantsStandIn t == false) = true by kernel_rfl) t hm |> (by simpa using ·)
theorem lawMv_fn : Tryz.prog.funcNamed Rows.clockMovesMatchSpecRow.func = some 4 := by kernel_rfl
theorem lawMv_looks : Tryz.pinned.checked.prog.looks [] = true := by kernel_rfl
theorem lawMv_card : Rows.ClockMovesMatchSpecCardSaid :=
  Claim7.holds_tied_plain_at .later [] [.data, .data, .data, .sentinel, .sentinel] true (true, "043569973840648b04a542a959a5373750f6f82b379a55938914e99a2dc01532") true
    lawMv_holds (fun _ h => by cases h) (by kernel_rfl) (fun _ h => by cases h) clockMovesMatchSpec_row_tie rfl ⟨rfl, rfl⟩ (by kernel_rfl) rfl
    (fun f fn hf hfn => by
      obtain rfl := Option.some.inj (lawMv_fn.symm.trans hf)
      obtain rfl := Option.some.inj (Tryz.func4.symm.trans hfn)
      exact ⟨lawMv_looks.symm, lawMv_std⟩)
    (by kernel_rfl)
#print axioms lawMv_card
end Go.Proofs.YthjmhdnamhifjaaGreatDoor
