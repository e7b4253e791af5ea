/- clock: Sum, Product, Inverse, Order. -/
import Derived.Test.YtnhmhjhfoonakaaGreatDoorYm
set_option linter.unusedSimpArgs false
set_option linter.unusedVariables false
namespace Go.Proofs.YtnhmhjhfoonakaaGreatDoor
open Go.RowKit Go.Dw
end Go.Proofs.YtnhmhjhfoonakaaGreatDoor
