/- Show and Read are as specified: for all positions, rates and strings that the row admits, where what it reads is of bulk at most 1048576. -/
import Derived.Test.YthgjgiccoobcgaaGreatDoorLtm2
import Derived.Test.YthgjgiccoobcgaaGreatDoorCards
import Derived.Test.YthgjgiccoobcgaaGreatDoorTie
import Derived.SevenTiedAt
set_option linter.unusedSimpArgs false
set_option linter.unusedVariables false
namespace Go.Proofs.YthgjgiccoobcgaaGreatDoor
open Go.ChangeShapes Go.WideShapes Go.ChangeAt Go.RowKit Go.Joins Go.Deep Go.Dw
theorem lawTm_plain (f : FuncId) (fn : Func) (hf : Tryz.pinned.checked.prog.funcNamed Rows.clockTextsMatchSpecUptoRow.func = some f) (hfn : Tryz.pinned.checked.prog.funcs[f]? = some fn) :
    true = Tryz.pinned.checked.prog.looks [] ∧ ∀ (j : Nat) t, fn.params[j]? = some t → Tryz.pinned.checked.prog.wantsStandIn t = false := by
  obtain rfl := Option.some.inj (lawTm_named.symm.trans hf)
  obtain rfl := Option.some.inj (Tryz.func4.symm.trans hfn)
  refine ⟨by kernel_rfl, fun j t ht => ?_⟩
  have hmem : t ∈ Tryz.f4.params := Array.mem_of_getElem? ht
  rw [Tryz.params4] at hmem
  have hall : (Tryz.f4.params.toList.all fun t => !Tryz.prog.wantsStandIn t) = true := by kernel_rfl
  rw [Tryz.params4] at hall
  have := List.all_eq_true.1 hall t (by simpa using hmem)
  show Tryz.prog.wantsStandIn t = false
  simpa using this
theorem lawTm_card : Rows.ClockTextsMatchSpecUptoCardSaid :=
  Claim7.holds_tied_plain_at .later [] _ _ _ _ lawTm_holds (fun _ h => by cases h) (by kernel_rfl) (fun _ h => by cases h) clockTextsMatchSpecUpto_row_tie rfl ⟨rfl, rfl⟩ (by kernel_rfl) rfl lawTm_plain (by kernel_rfl)
#print axioms lawTm_card
end Go.Proofs.YthgjgiccoobcgaaGreatDoor
