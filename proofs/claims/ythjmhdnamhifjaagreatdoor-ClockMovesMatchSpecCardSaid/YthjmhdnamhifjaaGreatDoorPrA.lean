/- A pair of whole numbers. -/
import Derived.Test.YthjmhdnamhifjaaGreatDoorProg
set_option linter.unusedSimpArgs false
set_option linter.unusedVariables false
namespace Go.Proofs.YthjmhdnamhifjaaGreatDoor
abbrev Pr := Int × Int
end Go.Proofs.YthjmhdnamhifjaaGreatDoor
