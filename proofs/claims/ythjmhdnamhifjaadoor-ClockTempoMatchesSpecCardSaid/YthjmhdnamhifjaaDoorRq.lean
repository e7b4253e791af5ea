/- The document's number, CheckRatio. -/
import Derived.Test.YthjmhdnamhifjaaDoorYs
import Derived.Test.YthjmhdnamhifjaaDoorRegion3
set_option linter.unusedSimpArgs false
set_option linter.unusedVariables false
namespace Go.Proofs.YthjmhdnamhifjaaDoor
open Go.RowKit Go.Dw Go.Joins
theorem good_head {l : List UInt8} (hd : AllDig l) (h0 : l ≠ []) (h1 : ¬ (1 < l.length ∧ l.head? = some 48)) : GoodD l := by
  refine ⟨hd, ?_⟩
  cases l with
  | nil => exact absurd rfl h0
  | cons c r =>
    by_cases hc : c = 48
    · subst hc
      cases r with
      | nil => exact .inl rfl
      | cons d r => exact absurd ⟨by simp, rfl⟩ h1
    · exact .inr ⟨c, r, rfl, hc⟩
end Go.Proofs.YthjmhdnamhifjaaDoor
