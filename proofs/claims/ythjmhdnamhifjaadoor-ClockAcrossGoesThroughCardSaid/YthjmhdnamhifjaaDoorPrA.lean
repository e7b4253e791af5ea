/- A pair of whole numbers. -/
import Derived.Test.YthjmhdnamhifjaaDoorProg
set_option linter.unusedSimpArgs false
set_option linter.unusedVariables false
namespace Go.Proofs.YthjmhdnamhifjaaDoor
abbrev Pr := Int × Int
end Go.Proofs.YthjmhdnamhifjaaDoor
