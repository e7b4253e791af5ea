/- Boxes that hold a num.Int. -/
import Derived.Test.YtocbogdjlapogaaGreatDoorBox
import Derived.Test.YtocbogdjlapogaaGreatDoorNsb
import Derived.Test.YtocbogdjlapogaaGreatDoorRegion4
import Derived.Test.YtocbogdjlapogaaGreatDoorZb
import Derived.Test.YtocbogdjlapogaaGreatDoorYl
import Derived.Deep.CutRange
set_option linter.unusedSimpArgs false
set_option linter.unusedVariables false
namespace Go.Proofs.YtocbogdjlapogaaGreatDoor
open Go.RowKit Go.Dw
/-- a box with a whole number -/
def IBox (w : World) (g : Nat) (z : Int) (k : Nat) : Prop := ∃ ng A n c, w.heap[g]? = some (.cells #[.bool ng, .slice A n c] 36 (0, 0)) ∧ IntAt w w.heap.size ng A n c z ∧ n ≤ k
theorem IBox.lt {w : World} {g k : Nat} {z : Int} (h : IBox w g z k) : g < w.heap.size := by
  obtain ⟨_, _, _, _, h, _⟩ := h
  exact blk_lt h
theorem IBox.below {w w' : World} {g k : Nat} {z : Int} (h : IBox w g z k) (hb : Below w.heap.size w w') : IBox w' g z k := by
  obtain ⟨ng, A, n, c, h1, h2, h3⟩ := h
  exact ⟨ng, A, n, c, (hb.block g (blk_lt h1)).trans h1, h2.to hb (Nat.le_refl _) hb.size, h3⟩
theorem IBox.le {w : World} {g k k' : Nat} {z : Int} (h : IBox w g z k) (hk : k ≤ k') : IBox w g z k' := by
  obtain ⟨ng, A, n, c, h1, h2, h3⟩ := h
  exact ⟨ng, A, n, c, h1, h2, by omega⟩
theorem IBox.ty {w : World} {g k : Nat} {z : Int} (h : IBox w g z k) : TyAt 36 w g := by
  obtain ⟨_, _, _, _, h, _⟩ := h
  exact ⟨_, _, h⟩
/-- a number stored into a box -/
theorem IBox.store {w : World} {g n c k : Nat} {z : Int} {ng : Bool} {A : Option Addr} {o0 o1 : Value} (hg : w.heap[g]? = some (.cells #[o0, o1] 36 (0, 0))) (h : IntAt w w.heap.size ng A n c z) (hn : n ≤ k) :
    IBox ((w.setCell ⟨g, 0, none⟩ (.bool ng)).setCell ⟨g, 1, none⟩ (.slice A n c)) g z k :=
  ⟨ng, A, n, c, box2_heap hg, h.box2 ⟨_, _, hg⟩ (by decide) _ _, hn⟩
theorem IBox.far {w : World} {g p k : Nat} {z : Int} (h : IBox w g z k) (ht : TyAt 36 w p) (hne : g ≠ p) (v0 v1 : Value) :
    IBox ((w.setCell ⟨p, 0, none⟩ v0).setCell ⟨p, 1, none⟩ v1) g z k := by
  obtain ⟨ng, A, n, c, h1, h2, h3⟩ := h
  exact ⟨ng, A, n, c, box_far (box_far h1 hne 0 v0) hne 1 v1, h2.box2 ht (by decide) _ _, h3⟩
theorem ty_box2 {w : World} {g p : Nat} {T : TypeId} (h : TyAt T w g) (v0 v1 : Value) : TyAt T ((w.setCell ⟨p, 0, none⟩ v0).setCell ⟨p, 1, none⟩ v1) g := (h.set _ _).set _ _
/-- the zero in a new box -/
theorem IBox.zero {w : World} {g k : Nat} (h : w.heap[g]? = some (.cells #[.bool false, .slice none 0 0] 36 (0, 0))) : IBox w g 0 k :=
  ⟨false, none, 0, 0, h, ⟨rfl, by exact ⟨Nat.le_refl _, Nat.zero_le _, [], CanN.nil _, rfl, ⟨rfl, fun i hi => by omega⟩⟩⟩, Nat.zero_le _⟩
/-- sums over the first pairs -/
def sumZ (f : Pr → Int) (l : List Pr) : Nat → Int
  | 0 => 0
  | k + 1 => sumZ f l k + f (prOf l k)
end Go.Proofs.YtocbogdjlapogaaGreatDoor
