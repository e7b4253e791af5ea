/- The sum of the squares of the differences from a line, as the laws take it. -/
import Derived.Test.YtocbogdjlapogaaGreatDoorFitQ
import Derived.Test.YtocbogdjlapogaaGreatDoorYr
import Derived.Test.YtocbogdjlapogaaGreatDoorYs
import Derived.Deep.CutBlock
set_option linter.unusedSimpArgs false
set_option linter.unusedVariables false
namespace Go.Proofs.YtocbogdjlapogaaGreatDoor
open Go.RowKit Go.Dw Go.Joins
/-- a box with a number of the document -/
def RBox (w : World) (g : Nat) (q : Rat) : Prop := ∃ ng A n c D d e, w.heap[g]? = some (.cells #[.bool ng, .slice A n c, .slice D d e] 50 (0, 0)) ∧ NumR w w.heap.size ng A n c D d e q
theorem RBox.below {w w' : World} {g : Nat} {q : Rat} (h : RBox w g q) (hb : Below w.heap.size w w') : RBox w' g q := by
  obtain ⟨ng, A, n, c, D, d, e, h1, h2⟩ := h
  exact ⟨ng, A, n, c, D, d, e, (hb.block g (blk_lt h1)).trans h1, h2.to hb (Nat.le_refl _) hb.size⟩
theorem RBox.lt {w : World} {g : Nat} {q : Rat} (h : RBox w g q) : g < w.heap.size := by
  obtain ⟨_, _, _, _, _, _, _, h1, _⟩ := h
  exact blk_lt h1
theorem RBox.ty {w : World} {g : Nat} {q : Rat} (h : RBox w g q) : TyAt 50 w g := by
  obtain ⟨_, _, _, _, _, _, _, h1, _⟩ := h
  exact ⟨_, _, h1⟩
theorem RBox.store {w : World} {g n c d e : Nat} {q : Rat} {ng : Bool} {A D : Option Addr} {o0 o1 o2 : Value} (hg : w.heap[g]? = some (.cells #[o0, o1, o2] 50 (0, 0))) (h : NumR w w.heap.size ng A n c D d e q) :
    RBox (((w.setCell ⟨g, 0, none⟩ (.bool ng)).setCell ⟨g, 1, none⟩ (.slice A n c)).setCell ⟨g, 2, none⟩ (.slice D d e)) g q :=
  ⟨ng, A, n, c, D, d, e, box3_heap hg, h.box3 ⟨_, _, hg⟩ (by decide) _ _ _⟩
theorem RBox.far {w : World} {g p : Nat} {q : Rat} (h : RBox w g q) (ht : TyAt 50 w p) (hne : g ≠ p) (v0 v1 v2 : Value) :
    RBox (((w.setCell ⟨p, 0, none⟩ v0).setCell ⟨p, 1, none⟩ v1).setCell ⟨p, 2, none⟩ v2) g q := by
  obtain ⟨ng, A, n, c, D, d, e, h1, h2⟩ := h
  exact ⟨ng, A, n, c, D, d, e, box_far (box_far (box_far h1 hne 0 v0) hne 1 v1) hne 2 v2, h2.box3 ht (by decide) _ _ _⟩
end Go.Proofs.YtocbogdjlapogaaGreatDoor
