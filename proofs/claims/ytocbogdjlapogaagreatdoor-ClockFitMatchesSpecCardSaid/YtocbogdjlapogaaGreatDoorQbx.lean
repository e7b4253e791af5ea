/- Boxes that hold a num.Rat. -/
import Derived.Test.YtocbogdjlapogaaGreatDoorIbx
set_option linter.unusedSimpArgs false
set_option linter.unusedVariables false
namespace Go.Proofs.YtocbogdjlapogaaGreatDoor
open Go.RowKit Go.Dw
/-- a box with a rational number -/
def QBox (w : World) (g : Nat) (q : Rat) (k m : Nat) : Prop := ∃ ng A n c D d e, w.heap[g]? = some (.cells #[.bool ng, .slice A n c, .slice D d e] 42 (0, 0)) ∧ RatAt w w.heap.size ng A n c D d e q ∧ n ≤ k ∧ d ≤ m
theorem QBox.below {w w' : World} {g k m : Nat} {q : Rat} (h : QBox w g q k m) (hb : Below w.heap.size w w') : QBox w' g q k m := by
  obtain ⟨ng, A, n, c, D, d, e, h1, h2, h3, h4⟩ := h
  exact ⟨ng, A, n, c, D, d, e, (hb.block g (blk_lt h1)).trans h1, ⟨h2.1.to hb (Nat.le_refl _) hb.size, h2.2.to hb (Nat.le_refl _) hb.size⟩, h3, h4⟩
/-- a rational number stored into a new box -/
theorem QBox.store {w : World} {g n c d e k m : Nat} {q : Rat} {ng : Bool} {A D : Option Addr} {o0 o1 o2 : Value} (hg : w.heap[g]? = some (.cells #[o0, o1, o2] 42 (0, 0))) (h : RatAt w w.heap.size ng A n c D d e q) (hn : n ≤ k) (hm : d ≤ m) :
    QBox (((w.setCell ⟨g, 0, none⟩ (.bool ng)).setCell ⟨g, 1, none⟩ (.slice A n c)).setCell ⟨g, 2, none⟩ (.slice D d e)) g q k m := by
  have ht : TyAt 42 w g := ⟨_, _, hg⟩
  refine ⟨ng, A, n, c, D, d, e, ?_, ⟨⟨h.1.1, ?_⟩, ?_⟩, hn, hm⟩
  · simp only [World.setCell, Array.getElem?_modify, hg]
    simp
  · refine NumAt.mono ?_ (show w.heap.size ≤ _ by simp)
    exact ((h.1.2.set_far (p := ⟨g, 0, none⟩) ht (by decide) _).set_far (p := ⟨g, 1, none⟩) (ht.set _ _) (by decide) _).set_far (p := ⟨g, 2, none⟩) ((ht.set _ _).set _ _) (by decide) _
  · refine NumAt.mono ?_ (show w.heap.size ≤ _ by simp)
    exact ((h.2.set_far (p := ⟨g, 0, none⟩) ht (by decide) _).set_far (p := ⟨g, 1, none⟩) (ht.set _ _) (by decide) _).set_far (p := ⟨g, 2, none⟩) ((ht.set _ _).set _ _) (by decide) _
/-- a number kept while a rational number is stored -/
theorem IBox.far3 {w : World} {g p k : Nat} {z : Int} (h : IBox w g z k) (ht : TyAt 42 w p) (hne : g ≠ p) (v0 v1 v2 : Value) :
    IBox (((w.setCell ⟨p, 0, none⟩ v0).setCell ⟨p, 1, none⟩ v1).setCell ⟨p, 2, none⟩ v2) g z k := by
  obtain ⟨ng, A, n, c, h1, h2, h3⟩ := h
  refine ⟨ng, A, n, c, box_far (box_far (box_far h1 hne 0 v0) hne 1 v1) hne 2 v2, ⟨h2.1, ?_⟩, h3⟩
  refine NumAt.mono ?_ (show w.heap.size ≤ _ by simp)
  exact ((h2.2.set_far (p := ⟨p, 0, none⟩) ht (by decide) _).set_far (p := ⟨p, 1, none⟩) (ht.set _ _) (by decide) _).set_far (p := ⟨p, 2, none⟩) ((ht.set _ _).set _ _) (by decide) _
end Go.Proofs.YtocbogdjlapogaaGreatDoor
