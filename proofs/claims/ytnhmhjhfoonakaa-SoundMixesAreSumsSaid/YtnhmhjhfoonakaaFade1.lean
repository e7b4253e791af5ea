/- Fade on both sides: the ways out. -/
import Derived.Test.YtnhmhjhfoonakaaFac
import Derived.Test.YtnhmhjhfoonakaaCutF
import Derived.Test.YtnhmhjhfoonakaaWb
import Derived.Test.YtnhmhjhfoonakaaWb
set_option linter.unusedSimpArgs false
set_option linter.unusedVariables false
namespace Go.Proofs.Ytnhmhjhfoonakaa
open Go.RowKit Go.Dw
end Go.Proofs.Ytnhmhjhfoonakaa
