/- Arguments of type Ratio opened. -/
import Derived.Test.YtkmcohnhanphdaaGreatDoorLiftB
import Derived.Deep.Matrix
set_option linter.unusedSimpArgs false
set_option linter.unusedVariables false
namespace Go.Proofs.YtkmcohnhanphdaaGreatDoor
open Go.ChangeShapes Go.WideShapes Go.ChangeAt Go.RowKit Go.Joins Go.Deep Go.Dw
section
variable {H : Type} {enc : TypeId × Value → H}
end
end Go.Proofs.YtkmcohnhanphdaaGreatDoor
/- From a law's walk to its row: sounds and spans opened, beside a row with laid tables. -/
namespace Go.Proofs.YtkmcohnhanphdaaGreatDoor
open Go.ChangeShapes Go.WideShapes Go.ChangeAt Go.RowKit Go.Joins Go.Deep Go.Dw
section
variable {H : Type} {enc : TypeId × Value → H}
theorem open_rows {W : World} {fuel : Nat} {cs : List Value} {x : DataW H × List MemPlace} (h : DataW.trod enc Tryz.prog W 0 (fun _ => true) true fuel 31 cs = some x) :
    ∃ A n c xss, cs = [.slice A n c] ∧ n ≤ c ∧ c ≤ maxLen ∧ RowsAt W W.heap.size A n xss := by
  rcases open_int_rows Tryz.underlying31 Tryz.underlying42 Tryz.underlying3 (by kernel_rfl) (by kernel_rfl) h with ⟨rfl, _⟩ | ⟨a, len, cap, A, L, C, Z, rfl, _, hl, hm, _, hx⟩
  · exact ⟨none, 0, 0, [], rfl, Nat.le_refl _, Nat.zero_le _, rfl, Nat.zero_le _, fun k hk => by omega⟩
  · refine ⟨some a, len, cap, (List.range len).map fun r => (Z r).take (L r), rfl, hl, hm, by simp, by omega, fun k hk => ?_⟩
    obtain ⟨h1, h2, h3, h4, _, h6, h7⟩ := hx k (by omega)
    have hrow : rowOf ((List.range len).map fun r => (Z r).take (L r)) k = (Z k).take (L k) := by
      simp [rowOf, List.getD, hk]
    refine ⟨a, rfl, by have := lt_of_cell h1; rwa [block_of_add] at this, A k, L k, C k, h1, h2, h3, ?_⟩
    rw [hrow]
    refine ⟨by simp [h4, h2], fun j hj => ?_⟩
    cases hA : A k with
    | none => have := h6 hA; omega
    | some a' =>
      have hc := (h7 a' hA).2 j (by omega)
      refine ⟨a', rfl, by have := lt_of_cell hc; rwa [block_of_add] at this, ?_⟩
      rw [hc]
      simp [elOf, List.getD, List.getElem?_take, hj]
end
end Go.Proofs.YtkmcohnhanphdaaGreatDoor
