/- A sound that lies in a box of a law, by its block. -/
import Derived.Test.YtlnjildkdmeflaaDoorWb
import Derived.Test.YtlnjildkdmeflaaDoorBase
set_option linter.unusedSimpArgs false
set_option linter.unusedVariables false
namespace Go.Proofs.YtlnjildkdmeflaaDoor
open Go.RowKit Go.Dw
structure SBox (w : World) (g : Nat) (r : Int) (A : Option Addr) (n c : Nat) (xss : List (List Int)) : Prop where
  box : w.heap[g]? = some (.cells #[.int .i64 r, .slice A n c] 24 (0, 0))
  rows : RowsAt w w.heap.size A n xss
theorem SBox.below {w w' : World} {g : Nat} {r : Int} {A : Option Addr} {n c : Nat} {xss : List (List Int)} (h : SBox w g r A n c xss) (hb : Below w.heap.size w w') : SBox w' g r A n c xss :=
  ⟨(hb.block g (blk_lt h.box)).trans h.box, (h.rows.below hb (Nat.le_refl _)).mono hb.size⟩
theorem sbox_cells {w : World} {g : Nat} {r : Int} {A : Option Addr} {n c : Nat} {xss : List (List Int)} (h : SBox w g r A n c xss) : w.cell? ⟨g, 0, none⟩ = some (.int .i64 r) ∧ w.cell? ⟨g, 1, none⟩ = some (.slice A n c) ∧ w.frozen? ⟨g, 0, none⟩ = false ∧ w.frozen? ⟨g, 1, none⟩ = false := by
  refine ⟨?_, ?_, frozen_of_row w g 0 _ _ h.box, frozen_of_row w g 1 _ _ h.box⟩
  · rw [own_cell1 h.box 0]; rfl
  · rw [own_cell1 h.box 1]; rfl
/-- a new box for a sound of the call's own -/
theorem sbox_new (w : World) (r : Int) (A : Option Addr) (n c : Nat) (xss : List (List Int)) (h : RowsAt w w.heap.size A n xss) : ∃ W g, W = w.alloc (.cells #[.int .i64 r, .slice A n c] 24) ∧ g = w.heap.size ∧ Hid (SBox W g r A n c xss) ∧ Hid (Below w.heap.size w W) :=
  ⟨_, _, rfl, rfl, ⟨heap_alloc_new _ _, (h.below ((Below.refl _ _).alloc (Nat.le_refl _) _) (Nat.le_refl _)).mono (by simp)⟩, (Below.refl _ _).alloc (Nat.le_refl _) _⟩
end Go.Proofs.YtlnjildkdmeflaaDoor

/- A ratio that lies in a box of a law. -/
set_option linter.unusedSimpArgs false
set_option linter.unusedVariables false
namespace Go.Proofs.YtlnjildkdmeflaaDoor
open Go.RowKit Go.Dw
end Go.Proofs.YtlnjildkdmeflaaDoor
