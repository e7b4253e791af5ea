/- isShape, factor, on both sides. -/
import Derived.Test.YtnhmhjhfoonakaaWb
import Derived.Test.YtnhmhjhfoonakaaWa
set_option linter.unusedSimpArgs false
set_option linter.unusedVariables false
namespace Go.Proofs.Ytnhmhjhfoonakaa
open Go.RowKit Go.Dw
end Go.Proofs.Ytnhmhjhfoonakaa
