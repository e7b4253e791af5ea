/- near on both sides: nearI. -/
import Derived.Test.YtnhmhjhfoonakaaWb
import Derived.Deep.QuietTactic
import Derived.BigQuiet
set_option linter.unusedSimpArgs false
set_option linter.unusedVariables false
namespace Go.Proofs.Ytnhmhjhfoonakaa
open Go.RowKit Go.Dw

end Go.Proofs.Ytnhmhjhfoonakaa
