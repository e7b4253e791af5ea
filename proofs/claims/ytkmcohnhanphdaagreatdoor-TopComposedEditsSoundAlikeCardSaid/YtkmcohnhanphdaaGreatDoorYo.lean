/- The document's limbs: small, divide. -/
import Derived.Test.YtkmcohnhanphdaaGreatDoorYn
import Derived.Test.YtkmcohnhanphdaaGreatDoorXa
import Derived.Deep.Cut
import Derived.Deep.DeepCutAuto
import Derived.Deep.LoopGhost
set_option linter.unusedSimpArgs false
set_option linter.unusedVariables false
namespace Go.Dw
open Go.RowKit
end Go.Dw
namespace Go.Proofs.YtkmcohnhanphdaaGreatDoor
open Go.RowKit Go.Dw
end Go.Proofs.YtkmcohnhanphdaaGreatDoor
/- The document's numbers: common, lowest. -/
namespace Go.Proofs.YtkmcohnhanphdaaGreatDoor
open Go.RowKit Go.Dw
theorem r3_cells {w : World} {g : Nat} {v0 v1 v2 : Value} {T : TypeId} (h : w.heap[g]? = some (.cells #[v0, v1, v2] T (0, 0))) : w.cell? ⟨g, 0, none⟩ = some v0 ∧ w.cell? ⟨g, 1, none⟩ = some v1 ∧ w.cell? ⟨g, 2, none⟩ = some v2 ∧ w.frozen? ⟨g, 0, none⟩ = false ∧ w.frozen? ⟨g, 1, none⟩ = false ∧ w.frozen? ⟨g, 2, none⟩ = false := by
  refine ⟨?_, ?_, ?_, frozen_of_row w g 0 _ _ h, frozen_of_row w g 1 _ _ h, frozen_of_row w g 2 _ _ h⟩
  · rw [own_cell1 h 0]; rfl
  · rw [own_cell1 h 1]; rfl
  · rw [own_cell1 h 2]; rfl
end Go.Proofs.YtkmcohnhanphdaaGreatDoor
