/- For the laws of bars. -/
import Derived.Test.YthgjgiccoobcgaaGreatDoorTof
import Derived.Sort.Row
set_option linter.unusedSimpArgs false
set_option linter.unusedVariables false
namespace Go.Proofs.YthgjgiccoobcgaaGreatDoor
open Go.RowKit Go.Dw Go.Joins
theorem ba_eq {z s : ByteArray} (h : z.data.toList = s.data.toList) : z = s := ByteArray.ext (Array.toList_inj.1 h)
end Go.Proofs.YthgjgiccoobcgaaGreatDoor
