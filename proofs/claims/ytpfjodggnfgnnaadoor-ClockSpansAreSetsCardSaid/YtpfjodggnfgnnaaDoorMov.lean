/- Moved, of both sides. -/
import Derived.Test.YtpfjodggnfgnnaaDoorTrn
import Derived.Test.YtpfjodggnfgnnaaDoorSpn2
set_option linter.unusedSimpArgs false
set_option linter.unusedVariables false
namespace Go.Proofs.YtpfjodggnfgnnaaDoor
open Go.RowKit Go.Dw
def shP (b : Int) (p : Pr) : Pr := (p.1 + b, p.2 + b)
/-- Moved -/
def movS (l : List Pr) (b : Int) : List Pr × Int := if chkSp l ≠ 0 then ([], chkSp l) else if okPos b = false then ([], 1) else if l.all (fun p => okPr (shP b p)) then (l.map (shP b), 0) else ([], 1)
theorem pr_cells {w : World} {g : Nat} {v0 v1 : Value} {T : TypeId} (h : w.heap[g]? = some (.cells #[v0, v1] T (0, 0))) : w.cell? ⟨g, 0, none⟩ = some v0 ∧ w.cell? ⟨g, 1, none⟩ = some v1 ∧ w.frozen? ⟨g, 0, none⟩ = false ∧ w.frozen? ⟨g, 1, none⟩ = false := by
  have h0 := own_cell1 h 0
  have h1 := own_cell1 h 1
  simp only [List.getElem?_toArray, List.getElem?_cons_zero, List.getElem?_cons_succ] at h0 h1
  exact ⟨h0, h1, frozen_of_row w g 0 _ _ h, frozen_of_row w g 1 _ _ h⟩
theorem heap2_store {w : World} {g : Nat} {o0 o1 v0 v1 : Value} {T : TypeId} (h : w.heap[g]? = some (.cells #[o0, o1] T (0, 0))) : ((w.setCell ⟨g, 0, none⟩ v0).setCell ⟨g, 1, none⟩ v1).heap[g]? = some (.cells #[v0, v1] T (0, 0)) := by
  simp only [World.setCell, Array.getElem?_modify, h]
  simp
theorem chkSp_few {l : List Pr} (h : chkSp l = 0) : l.length ≤ 1000 := by
  unfold chkSp at h
  by_cases h1 : 1000 < l.length
  · rw [if_pos h1] at h; exact absurd h (by decide)
  · omega
theorem chkSp_rng {l : List Pr} (h : chkSp l = 0) {k : Nat} (hk : k < l.length) : (-10000000000000 ≤ (prOf l k).1 ∧ (prOf l k).1 ≤ 10000000000000) ∧ (-10000000000000 ≤ (prOf l k).2 ∧ (prOf l k).2 ≤ 10000000000000) := by
  have hf := chkSp_few h
  unfold chkSp at h
  rw [if_neg (by omega)] at h
  obtain ⟨a, _⟩ := rowG_zero h k (by omega) (by omega)
  unfold okPr at a
  rw [Bool.and_eq_true] at a
  exact ⟨okPos_le a.1, okPos_le a.2⟩
theorem all_take_fail {l : List Pr} {P : Pr → Bool} {k : Nat} (hk : k < l.length) (h : P (prOf l k) = false) : l.all P = false := by
  rw [List.all_eq_false]
  exact ⟨_, pr_mem hk, by rw [h]; simp⟩
theorem all_of_each {l : List Pr} {P : Pr → Bool} (h : ∀ j, j < l.length → P (prOf l j) = true) : l.all P = true := by
  rw [List.all_eq_true]
  intro x hx
  obtain ⟨i, hi, rfl⟩ := List.getElem_of_mem hx
  have := h i hi
  simpa [prOf, List.getD, List.getElem?_eq_getElem hi] using this
theorem sh_take {l : List Pr} {b x y : Int} {k : Nat} (hk : k < l.length) (hp : prOf l k = (x, y)) : (l.map (shP b)).take (k + 1) = (l.map (shP b)).take k ++ [(x + b, y + b)] := by
  rw [← List.map_take, ← List.map_take, take_pr hk, hp, List.map_append]; rfl
end Go.Proofs.YtpfjodggnfgnnaaDoor
