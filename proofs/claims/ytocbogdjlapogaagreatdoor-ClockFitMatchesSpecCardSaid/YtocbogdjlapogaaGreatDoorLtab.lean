/- The table of powers of ten, from what a row lists. -/
import Derived.Test.YtocbogdjlapogaaGreatDoorWj
import Derived.Test.YtocbogdjlapogaaGreatDoorYp
import Derived.LaidSub
import Derived.Lib.LaidTab
set_option linter.unusedSimpArgs false
set_option linter.unusedVariables false
namespace Go.Proofs.YtocbogdjlapogaaGreatDoor
open Go.RowKit Go.Dw Go.Joins
theorem tab_of {l : List (String × DataW Unit)} {W : World} (h : laidMetH Tryz.prog l W)
    (he : ((l.filter fun x => x.2.handleName?.isNone).filter fun x => x.1 == "internal/strconv.uint64pow10") = [("internal/strconv.uint64pow10", Lib.tabData .u64 Lib.pow10Tab)]) : TabAt W := by
  have h1 := ((laidMetH_iff.1 h).1).filter (fun x => x.1 == "internal/strconv.uint64pow10")
  rw [he] at h1
  exact Lib.tabIs_of_head (t := 119) (e := 59) (n := 20) tab_named (by kernel_rfl) Tryz.underlying119 Tryz.underlying59 (by kernel_rfl) (by kernel_rfl) h1
end Go.Proofs.YtocbogdjlapogaaGreatDoor
