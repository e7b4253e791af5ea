/- A region that draws its order, where three operations are ready: all ways. No program in sight. -/
import Derived.Test.YtocbogdjlapogaaGreatDoorRegion3
set_option linter.unusedSimpArgs false
set_option linter.unusedVariables false
namespace Go.Dw
open Go.RowKit
section
variable {P : Program} {ops : Array Oper} {Q : Exit → Act → World → Prop} {S : World → Prop}
theorem HT.three {n f : Nat} (i j l : Nat) {o1 o2 o3 : Oper} {listed : Array Bool} {a : Act} {w : World} (hi : ops[i]? = some o1) (hj : ops[j]? = some o2) (hl : ops[l]? = some o3) (hr : Region.ready .any ops listed = [i, j, l]) (hin : i < n) (hjn : j < n) (hln : l < n)
    (hw : Region.wanted o1 (yielded ops a.tmps) = true) (hw' : Region.wanted o2 (yielded ops a.tmps) = true) (hw'' : Region.wanted o3 (yielded ops a.tmps) = true)
    (h : ∀ K : Act → World → Prop, Hid (∀ a w, S w → HT P ops Q S n f (listed.setIfInBounds i true) a w → K a w) → o1.wp P a w K Q)
    (h' : ∀ K : Act → World → Prop, Hid (∀ a w, S w → HT P ops Q S n f (listed.setIfInBounds j true) a w → K a w) → o2.wp P a w K Q)
    (h'' : ∀ K : Act → World → Prop, Hid (∀ a w, S w → HT P ops Q S n f (listed.setIfInBounds l true) a w → K a w) → o3.wp P a w K Q) : HT P ops Q S n (f + 1) listed a w := fun hb => by
  refine ⟨fun h0 => (by rw [hr] at h0; cases h0), fun k hk => ?_⟩
  have hij : k = i ∨ k = j ∨ k = l := by rw [hr] at hk; simpa using hk
  rcases hij with rfl | rfl | rfl
  · refine ⟨fun _ => ?_, fun h => by omega⟩
    unfold wpOp
    simp only [hi, hw, if_true]
    exact .inl (h _ (fun a' w' hS hH => ⟨hS, hH hb⟩))
  · refine ⟨fun _ => ?_, fun h => by omega⟩
    unfold wpOp
    simp only [hj, hw', if_true]
    exact .inl (h' _ (fun a' w' hS hH => ⟨hS, hH hb⟩))
  · refine ⟨fun _ => ?_, fun h => by omega⟩
    unfold wpOp
    simp only [hl, hw'', if_true]
    exact .inl (h'' _ (fun a' w' hS hH => ⟨hS, hH hb⟩))
theorem HL.two {n g f : Nat} (i j : Nat) {tail : List Oper} {o1 o2 : Oper} {listed : Array Bool} {a : Act} {w : World} (hi : ops[i]? = some o1) (hj : ops[j]? = some o2) (hr : Region.ready .any ops listed = [i, j]) (hin : i < n) (hjn : j < n)
    (hw : Region.wanted o1 (yielded ops a.tmps) = true) (hw' : Region.wanted o2 (yielded ops a.tmps) = true)
    (h : ∀ K : Act → World → Prop, Hid (∀ a w, S w → HL P ops Q S n g tail f (listed.setIfInBounds i true) a w → K a w) → o1.wp P a w K Q)
    (h' : ∀ K : Act → World → Prop, Hid (∀ a w, S w → HL P ops Q S n g tail f (listed.setIfInBounds j true) a w → K a w) → o2.wp P a w K Q) : HL P ops Q S n g tail (f + 1) listed a w := fun hb inv => by
  refine ⟨by rw [hr]; simp, fun k hk => ?_⟩
  have hij : k = i ∨ k = j := by rw [hr] at hk; simpa using hk
  rcases hij with rfl | rfl
  · refine ⟨hin, ?_⟩
    unfold wpOp
    simp only [hi, hw, if_true]
    exact .inl (h _ (fun a' w' hS hH => ⟨hS, hH hb (inv.set (by rw [hr]; simp) hin)⟩))
  · refine ⟨hjn, ?_⟩
    unfold wpOp
    simp only [hj, hw', if_true]
    exact .inl (h' _ (fun a' w' hS hH => ⟨hS, hH hb (inv.set (by rw [hr]; simp) hjn)⟩))
theorem HL.three {n g f : Nat} (i j l : Nat) {tail : List Oper} {o1 o2 o3 : Oper} {listed : Array Bool} {a : Act} {w : World} (hi : ops[i]? = some o1) (hj : ops[j]? = some o2) (hl : ops[l]? = some o3) (hr : Region.ready .any ops listed = [i, j, l]) (hin : i < n) (hjn : j < n) (hln : l < n)
    (hw : Region.wanted o1 (yielded ops a.tmps) = true) (hw' : Region.wanted o2 (yielded ops a.tmps) = true) (hw'' : Region.wanted o3 (yielded ops a.tmps) = true)
    (h : ∀ K : Act → World → Prop, Hid (∀ a w, S w → HL P ops Q S n g tail f (listed.setIfInBounds i true) a w → K a w) → o1.wp P a w K Q)
    (h' : ∀ K : Act → World → Prop, Hid (∀ a w, S w → HL P ops Q S n g tail f (listed.setIfInBounds j true) a w → K a w) → o2.wp P a w K Q)
    (h'' : ∀ K : Act → World → Prop, Hid (∀ a w, S w → HL P ops Q S n g tail f (listed.setIfInBounds l true) a w → K a w) → o3.wp P a w K Q) : HL P ops Q S n g tail (f + 1) listed a w := fun hb inv => by
  refine ⟨by rw [hr]; simp, fun k hk => ?_⟩
  have hij : k = i ∨ k = j ∨ k = l := by rw [hr] at hk; simpa using hk
  rcases hij with rfl | rfl | rfl
  · refine ⟨hin, ?_⟩
    unfold wpOp
    simp only [hi, hw, if_true]
    exact .inl (h _ (fun a' w' hS hH => ⟨hS, hH hb (inv.set (by rw [hr]; simp) hin)⟩))
  · refine ⟨hjn, ?_⟩
    unfold wpOp
    simp only [hj, hw', if_true]
    exact .inl (h' _ (fun a' w' hS hH => ⟨hS, hH hb (inv.set (by rw [hr]; simp) hjn)⟩))
  · refine ⟨hln, ?_⟩
    unfold wpOp
    simp only [hl, hw'', if_true]
    exact .inl (h'' _ (fun a' w' hS hH => ⟨hS, hH hb (inv.set (by rw [hr]; simp) hln)⟩))
end
end Go.Dw
