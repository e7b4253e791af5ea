/- A pair of whole numbers. -/
import Derived.Test.YtkmcohnhanphdaaGreatDoorProg
import Derived.Test.YtkmcohnhanphdaaGreatDoorXa
import Derived.IntWalk
import Derived.Deep.Cut
import Derived.RegionTactic
import Derived.BigRegion
import Derived.OwnWalk
import Derived.Deep.OwnRows
import Derived.Laws.OwnMore
import Derived.Deep.DeepCutAuto
import Derived.BigQuiet
set_option linter.unusedSimpArgs false
set_option linter.unusedVariables false
namespace Go.Proofs.YtkmcohnhanphdaaGreatDoor
end Go.Proofs.YtkmcohnhanphdaaGreatDoor
/- Rows of pairs of whole numbers, read below a block, and rows of the call's own. -/
namespace Go.Proofs.YtkmcohnhanphdaaGreatDoor
open Go.RowKit Go.Dw
theorem cell_new0 (w : World) (T : TypeId) (cs : Array Value) : ∃ W gx, W = w.alloc (.cells cs T) ∧ gx = w.heap.size ∧ Hid (W.heap[gx]? = some (.cells cs T (0, 0))) ∧ Hid (Below w.heap.size w W) ∧ Hid (W.heap.size = w.heap.size + 1) :=
  ⟨_, _, rfl, rfl, heap_alloc_new _ _, (Below.refl _ _).alloc (Nat.le_refl _) _, by show _ = _; simp⟩
end Go.Proofs.YtkmcohnhanphdaaGreatDoor
/- Rows of spans and of pairs: one more, all zeros, equality. -/
namespace Go.Proofs.YtkmcohnhanphdaaGreatDoor
open Go.RowKit Go.Dw
end Go.Proofs.YtkmcohnhanphdaaGreatDoor
/- Rows of spans: one more. -/
namespace Go.Proofs.YtkmcohnhanphdaaGreatDoor
open Go.RowKit Go.Dw
end Go.Proofs.YtkmcohnhanphdaaGreatDoor
