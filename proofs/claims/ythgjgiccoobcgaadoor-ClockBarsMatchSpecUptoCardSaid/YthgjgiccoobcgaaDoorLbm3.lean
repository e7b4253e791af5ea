/- BarOf and TickOf are as specified, for any string: for all maps, ticks and strings that the row admits, where what it reads is of bulk at most 1048576. -/
import Derived.Test.YthgjgiccoobcgaaDoorLbm2
import Derived.Test.YthgjgiccoobcgaaDoorCards
import Derived.Test.YthgjgiccoobcgaaDoorTie
import Derived.SevenTiedAt
set_option linter.unusedSimpArgs false
set_option linter.unusedVariables false
namespace Go.Proofs.YthgjgiccoobcgaaDoor
open Go.ChangeShapes Go.WideShapes Go.ChangeAt Go.RowKit Go.Joins Go.Deep Go.Dw
theorem lawBm_plain (f : FuncId) (fn : Func) (hf : Tryd.pinned.checked.prog.funcNamed Rows.clockBarsMatchSpecUptoRow.func = some f) (hfn : Tryd.pinned.checked.prog.funcs[f]? = some fn) :
    true = Tryd.pinned.checked.prog.looks [] ∧ ∀ (j : Nat) t, fn.params[j]? = some t → Tryd.pinned.checked.prog.wantsStandIn t = false := by
  obtain rfl := Option.some.inj (lawBm_named.symm.trans hf)
  obtain rfl := Option.some.inj (Tryd.func3.symm.trans hfn)
  refine ⟨by kernel_rfl, fun j t ht => ?_⟩
  have hmem : t ∈ Tryd.f3.params := Array.mem_of_getElem? ht
  rw [Tryd.params3] at hmem
  have hall : (Tryd.f3.params.toList.all fun t => !Tryd.prog.wantsStandIn t) = true := by kernel_rfl
  rw [Tryd.params3] at hall
  have := List.all_eq_true.1 hall t (by simpa using hmem)
  show Tryd.prog.wantsStandIn t = false
  simpa using this
theorem lawBm_card : Rows.ClockBarsMatchSpecUptoCardSaid :=
  Claim7.holds_tied_plain_at .later [] _ _ _ _ lawBm_holds (fun _ h => by cases h) (by kernel_rfl) (fun _ h => by cases h) clockBarsMatchSpecUpto_row_tie rfl ⟨rfl, rfl⟩ (by kernel_rfl) rfl lawBm_plain (by kernel_rfl)
#print axioms lawBm_card
end Go.Proofs.YthgjgiccoobcgaaDoor
