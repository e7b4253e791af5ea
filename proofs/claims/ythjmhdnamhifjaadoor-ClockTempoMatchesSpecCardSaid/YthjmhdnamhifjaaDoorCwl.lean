/- clock: Sum, Product, Inverse, Order. -/
import Derived.Test.YthjmhdnamhifjaaDoorYm
set_option linter.unusedSimpArgs false
set_option linter.unusedVariables false
namespace Go.Proofs.YthjmhdnamhifjaaDoor
open Go.RowKit Go.Dw
end Go.Proofs.YthjmhdnamhifjaaDoor
