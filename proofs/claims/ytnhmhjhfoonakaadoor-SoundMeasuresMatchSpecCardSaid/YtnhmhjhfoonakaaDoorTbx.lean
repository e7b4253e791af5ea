/- A ratio that lies in a box of a law. -/
import Derived.Test.YtnhmhjhfoonakaaDoorBase
set_option linter.unusedSimpArgs false
set_option linter.unusedVariables false
namespace Go.Proofs.YtnhmhjhfoonakaaDoor
open Go.RowKit Go.Dw
def TBox (w : World) (g : Nat) (s t : ByteArray) : Prop := w.heap[g]? = some (.cells #[.string s, .string t] 42 (0, 0))
theorem TBox.below {w w' : World} {g : Nat} {s t : ByteArray} (h : TBox w g s t) (hb : Below w.heap.size w w') : TBox w' g s t := (hb.block g (blk_lt h)).trans h
end Go.Proofs.YtnhmhjhfoonakaaDoor
