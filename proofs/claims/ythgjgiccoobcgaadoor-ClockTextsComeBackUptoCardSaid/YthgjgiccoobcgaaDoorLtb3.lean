/- Read reads what Show writes, and nothing else: for all positions, rates and strings that the row admits, where what it reads is of bulk at most 1048576. -/
import Derived.Test.YthgjgiccoobcgaaDoorLtb2
import Derived.Test.YthgjgiccoobcgaaDoorCards
import Derived.Test.YthgjgiccoobcgaaDoorTie
import Derived.SevenTiedAt
set_option linter.unusedSimpArgs false
set_option linter.unusedVariables false
namespace Go.Proofs.YthgjgiccoobcgaaDoor
open Go.ChangeShapes Go.WideShapes Go.ChangeAt Go.RowKit Go.Joins Go.Deep Go.Dw
theorem lawTb_plain (f : FuncId) (fn : Func) (hf : Tryd.pinned.checked.prog.funcNamed Rows.clockTextsComeBackUptoRow.func = some f) (hfn : Tryd.pinned.checked.prog.funcs[f]? = some fn) :
    true = Tryd.pinned.checked.prog.looks [] ∧ ∀ (j : Nat) t, fn.params[j]? = some t → Tryd.pinned.checked.prog.wantsStandIn t = false := by
  obtain rfl := Option.some.inj (lawTb_named.symm.trans hf)
  obtain rfl := Option.some.inj (Tryd.func5.symm.trans hfn)
  refine ⟨by kernel_rfl, fun j t ht => ?_⟩
  have hmem : t ∈ Tryd.f5.params := Array.mem_of_getElem? ht
  rw [Tryd.params5] at hmem
  have hall : (Tryd.f5.params.toList.all fun t => !Tryd.prog.wantsStandIn t) = true := by kernel_rfl
  rw [Tryd.params5] at hall
  have := List.all_eq_true.1 hall t (by simpa using hmem)
  show Tryd.prog.wantsStandIn t = false
  simpa using this
theorem lawTb_card : Rows.ClockTextsComeBackUptoCardSaid :=
  Claim7.holds_tied_plain_at .later [] _ _ _ _ lawTb_holds (fun _ h => by cases h) (by kernel_rfl) (fun _ h => by cases h) clockTextsComeBackUpto_row_tie rfl ⟨rfl, rfl⟩ (by kernel_rfl) rfl lawTb_plain (by kernel_rfl)
#print axioms lawTb_card
end Go.Proofs.YthgjgiccoobcgaaDoor
