/- Bytes: rows of bytes in memory, strings as lists of bytes, rows of chunks. -/
import Derived.Test.YtkmcohnhanphdaaGreatDoorWc
import Derived.Test.YtkmcohnhanphdaaGreatDoorWc
import Derived.Test.YtkmcohnhanphdaaGreatDoorWb
import Derived.Test.YtkmcohnhanphdaaGreatDoorXa
import Derived.Lib.AppendStr
set_option linter.unusedSimpArgs false
set_option linter.unusedVariables false
namespace Go.Proofs.YtkmcohnhanphdaaGreatDoor
open Go.RowKit Go.Dw
abbrev By := List UInt8
def byOf (bs : By) (j : Nat) : UInt8 := bs.getD j 0
end Go.Proofs.YtkmcohnhanphdaaGreatDoor
