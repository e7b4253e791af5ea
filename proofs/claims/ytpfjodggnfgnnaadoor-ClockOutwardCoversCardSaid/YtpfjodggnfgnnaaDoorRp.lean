/- The document's Convert. -/
import Derived.Test.YtpfjodggnfgnnaaDoorYs
import Derived.Test.YtpfjodggnfgnnaaDoorAwk
set_option linter.unusedSimpArgs false
set_option linter.unusedVariables false
namespace Go.Proofs.YtpfjodggnfgnnaaDoor
open Go.RowKit Go.Dw Go.Joins
theorem conv_rat (n tr frm : Int) (h : 0 < frm) : ((n : Rat) * (tr : Rat)) / (frm : Rat) = mkRat (n * tr) frm.natAbs := by
  rw [frac_pos _ _ h, Rat.intCast_mul]
theorem pos_rnd (q : Rat) (way : Int) : posI (roundQ q way) = if (rndR q way 10000000000000).2 = true then ((rndR q way 10000000000000).1, 0) else (0, 1) := by
  unfold posI rndR
  by_cases h : (roundQ q way).natAbs ≤ 10000000000000
  · rw [if_pos h, if_pos h]; rfl
  · rw [if_neg h, if_neg h]; rfl
end Go.Proofs.YtpfjodggnfgnnaaDoor
