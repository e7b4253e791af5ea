/- A region that draws its order, where two operations are ready (a call and an operation that makes memory): both ways. No program in sight. -/
import Derived.Test.YtkmcohnhanphdaaGreatDoorRegion2
set_option linter.unusedSimpArgs false
set_option linter.unusedVariables false
namespace Go.Dw
open Go.RowKit
section
variable {P : Program} {ops : Array Oper} {Q : Exit → Act → World → Prop} {S : World → Prop}
theorem HT.two {n f : Nat} (i j : Nat) {o o' : Oper} {listed : Array Bool} {a : Act} {w : World} (hi : ops[i]? = some o) (hj : ops[j]? = some o') (hr : Region.ready .any ops listed = [i, j]) (hin : i < n) (hjn : j < n) (hw : Region.wanted o (yielded ops a.tmps) = true) (hw' : Region.wanted o' (yielded ops a.tmps) = true)
    (h : ∀ K : Act → World → Prop, Hid (∀ a w, S w → HT P ops Q S n f (listed.setIfInBounds i true) a w → K a w) → o.wp P a w K Q)
    (h' : ∀ K : Act → World → Prop, Hid (∀ a w, S w → HT P ops Q S n f (listed.setIfInBounds j true) a w → K a w) → o'.wp P a w K Q) : HT P ops Q S n (f + 1) listed a w := fun hb => by
  refine ⟨fun h0 => (by rw [hr] at h0; cases h0), fun k hk => ?_⟩
  have hij : k = i ∨ k = j := by rw [hr] at hk; simpa using hk
  rcases hij with rfl | rfl
  · refine ⟨fun _ => ?_, fun h => by omega⟩
    unfold wpOp
    simp only [hi, hw, if_true]
    exact .inl (h _ (fun a' w' hS hH => ⟨hS, hH hb⟩))
  · refine ⟨fun _ => ?_, fun h => by omega⟩
    unfold wpOp
    simp only [hj, hw', if_true]
    exact .inl (h' _ (fun a' w' hS hH => ⟨hS, hH hb⟩))
end
end Go.Dw
