/- From a law's walk to its row: tempo maps opened. -/
import Derived.Test.YthgjgiccoobcgaaGreatDoorLiftB
import Derived.Test.YthgjgiccoobcgaaGreatDoorYq
set_option linter.unusedSimpArgs false
set_option linter.unusedVariables false
namespace Go.Proofs.YthgjgiccoobcgaaGreatDoor
open Go.ChangeShapes Go.WideShapes Go.ChangeAt Go.RowKit Go.Joins Go.Deep Go.Dw
section
variable {H : Type} {enc : TypeId × Value → H}
end
end Go.Proofs.YthgjgiccoobcgaaGreatDoor
