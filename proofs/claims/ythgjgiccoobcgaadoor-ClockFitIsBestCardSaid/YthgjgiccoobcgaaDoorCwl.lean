/- clock: Sum, Product, Inverse, Order. -/
import Derived.Test.YthgjgiccoobcgaaDoorYm
set_option linter.unusedSimpArgs false
set_option linter.unusedVariables false
namespace Go.Proofs.YthgjgiccoobcgaaDoor
open Go.RowKit Go.Dw
end Go.Proofs.YthgjgiccoobcgaaDoor
