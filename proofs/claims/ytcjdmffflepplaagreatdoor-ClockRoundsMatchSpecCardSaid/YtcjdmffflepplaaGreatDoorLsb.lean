/- A box with a ratio. -/
import Derived.Test.YtcjdmffflepplaaGreatDoorCwl
set_option linter.unusedSimpArgs false
set_option linter.unusedVariables false
namespace Go.Proofs.YtcjdmffflepplaaGreatDoor
open Go.RowKit Go.Dw
/-- a box with a ratio -/
def RBox (w : World) (g : Nat) (s t : ByteArray) : Prop := w.heap[g]? = some (.cells #[.string s, .string t] 28 (0, 0))
theorem RBox.below {w w' : World} {g : Nat} {s t : ByteArray} (h : RBox w g s t) (hb : Below w.heap.size w w') : RBox w' g s t := (hb.block g (blk_lt h)).trans h
theorem le_max {n m : Nat} (h : n ≤ m) (hm : m ≤ 1000000) : n ≤ maxLen := by unfold maxLen; omega
end Go.Proofs.YtcjdmffflepplaaGreatDoor
