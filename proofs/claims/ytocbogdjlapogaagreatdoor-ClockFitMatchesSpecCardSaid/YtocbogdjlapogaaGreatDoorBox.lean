/- Numbers and what is stored into a box beside them. -/
import Derived.Test.YtocbogdjlapogaaGreatDoorNqd
import Derived.Test.YtocbogdjlapogaaGreatDoorYo
import Derived.Test.YtocbogdjlapogaaGreatDoorZa
set_option linter.unusedSimpArgs false
set_option linter.unusedVariables false
namespace Go.Proofs.YtocbogdjlapogaaGreatDoor
open Go.RowKit Go.Dw
theorem box3_heap {w : World} {g : Nat} {o0 o1 o2 v0 v1 v2 : Value} {T : TypeId} (h : w.heap[g]? = some (.cells #[o0, o1, o2] T (0, 0))) : (((w.setCell ⟨g, 0, none⟩ v0).setCell ⟨g, 1, none⟩ v1).setCell ⟨g, 2, none⟩ v2).heap[g]? = some (.cells #[v0, v1, v2] T (0, 0)) := by
  simp only [World.setCell, Array.getElem?_modify, h]
  simp
theorem box2_heap {w : World} {g : Nat} {o0 o1 v0 v1 : Value} {T : TypeId} (h : w.heap[g]? = some (.cells #[o0, o1] T (0, 0))) : ((w.setCell ⟨g, 0, none⟩ v0).setCell ⟨g, 1, none⟩ v1).heap[g]? = some (.cells #[v0, v1] T (0, 0)) := by
  simp only [World.setCell, Array.getElem?_modify, h]
  simp
theorem box_far {w : World} {g p : Nat} {o : Obj} (h : w.heap[g]? = some o) (hne : g ≠ p) (j : Nat) (v : Value) : (w.setCell ⟨p, j, none⟩ v).heap[g]? = some o := by
  simp only [World.setCell, Array.getElem?_modify]
  rw [if_neg (by omega)]
  exact h
section
variable {k : IntKind} {T T' : TypeId} {b B n c x g : Nat} {w : World} {A : Option Addr}
theorem numAt_box3 (h : NumAt k T b w B A n c x) (ht : TyAt T' w g) (hne : T ≠ T') (v0 v1 v2 : Value) : NumAt k T b (((w.setCell ⟨g, 0, none⟩ v0).setCell ⟨g, 1, none⟩ v1).setCell ⟨g, 2, none⟩ v2) B A n c x :=
  ((h.set_far (p := ⟨g, 0, none⟩) ht hne _).set_far (p := ⟨g, 1, none⟩) (ht.set _ _) hne _).set_far (p := ⟨g, 2, none⟩) ((ht.set _ _).set _ _) hne _
theorem numAt_box2 (h : NumAt k T b w B A n c x) (ht : TyAt T' w g) (hne : T ≠ T') (v0 v1 : Value) : NumAt k T b ((w.setCell ⟨g, 0, none⟩ v0).setCell ⟨g, 1, none⟩ v1) B A n c x :=
  (h.set_far (p := ⟨g, 0, none⟩) ht hne _).set_far (p := ⟨g, 1, none⟩) (ht.set _ _) hne _
end
section
variable {w : World} {g n c m d : Nat} {A D : Option Addr} {neg : Bool} {q : Rat} {z : Int} {T' : TypeId}
/-- a quotient beside a box that is written -/
theorem RatAt.box3 (h : RatAt w w.heap.size neg A n c D m d q) (ht : TyAt T' w g) (hne : 62 ≠ T') (v0 v1 v2 : Value) :
    RatAt (((w.setCell ⟨g, 0, none⟩ v0).setCell ⟨g, 1, none⟩ v1).setCell ⟨g, 2, none⟩ v2) (((w.setCell ⟨g, 0, none⟩ v0).setCell ⟨g, 1, none⟩ v1).setCell ⟨g, 2, none⟩ v2).heap.size neg A n c D m d q :=
  ⟨⟨h.1.1, (numAt_box3 h.1.2 ht hne _ _ _).mono (by simp)⟩, (numAt_box3 h.2 ht hne _ _ _).mono (by simp)⟩
theorem RatAt.box2 (h : RatAt w w.heap.size neg A n c D m d q) (ht : TyAt T' w g) (hne : 62 ≠ T') (v0 v1 : Value) :
    RatAt ((w.setCell ⟨g, 0, none⟩ v0).setCell ⟨g, 1, none⟩ v1) ((w.setCell ⟨g, 0, none⟩ v0).setCell ⟨g, 1, none⟩ v1).heap.size neg A n c D m d q :=
  ⟨⟨h.1.1, (numAt_box2 h.1.2 ht hne _ _).mono (by simp)⟩, (numAt_box2 h.2 ht hne _ _).mono (by simp)⟩
theorem IntAt.box2 (h : IntAt w w.heap.size neg A n c z) (ht : TyAt T' w g) (hne : 62 ≠ T') (v0 v1 : Value) :
    IntAt ((w.setCell ⟨g, 0, none⟩ v0).setCell ⟨g, 1, none⟩ v1) ((w.setCell ⟨g, 0, none⟩ v0).setCell ⟨g, 1, none⟩ v1).heap.size neg A n c z :=
  ⟨h.1, (numAt_box2 h.2 ht hne _ _).mono (by simp)⟩
theorem NumR.box3 (h : NumR w w.heap.size neg A n c D m d q) (ht : TyAt T' w g) (hne : 3 ≠ T') (v0 v1 v2 : Value) :
    NumR (((w.setCell ⟨g, 0, none⟩ v0).setCell ⟨g, 1, none⟩ v1).setCell ⟨g, 2, none⟩ v2) (((w.setCell ⟨g, 0, none⟩ v0).setCell ⟨g, 1, none⟩ v1).setCell ⟨g, 2, none⟩ v2).heap.size neg A n c D m d q :=
  ⟨h.1, (numAt_box3 h.2.1 ht hne _ _ _).mono (by simp), (numAt_box3 h.2.2 ht hne _ _ _).mono (by simp)⟩
end
theorem box2_below {w w' : World} {B g : Nat} {v0 v1 : Value} (h : Below B w w') (hg : B ≤ g) : Below B w ((w'.setCell ⟨g, 0, none⟩ v0).setCell ⟨g, 1, none⟩ v1) :=
  (h.setCell (p := ⟨g, 0, none⟩) hg v0).setCell (p := ⟨g, 1, none⟩) hg v1
theorem box3_below {w w' : World} {B g : Nat} {v0 v1 v2 : Value} (h : Below B w w') (hg : B ≤ g) : Below B w (((w'.setCell ⟨g, 0, none⟩ v0).setCell ⟨g, 1, none⟩ v1).setCell ⟨g, 2, none⟩ v2) :=
  (box2_below h hg).setCell (p := ⟨g, 2, none⟩) hg v2
end Go.Proofs.YtocbogdjlapogaaGreatDoor
