/- The reference's RatioOf. -/
import Derived.Test.YtnhmhjhfoonakaaDoorYs
set_option linter.unusedSimpArgs false
set_option linter.unusedVariables false
namespace Go.Proofs.YtnhmhjhfoonakaaDoor
open Go.RowKit Go.Dw Go.Joins
end Go.Proofs.YtnhmhjhfoonakaaDoor
