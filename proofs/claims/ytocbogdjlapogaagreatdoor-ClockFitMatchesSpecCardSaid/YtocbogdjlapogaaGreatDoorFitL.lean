/- Least squares: the discriminant of increasing pairs. -/
import Derived.Test.YtocbogdjlapogaaGreatDoorIbx
set_option linter.unusedSimpArgs false
set_option linter.unusedVariables false
namespace Go.Proofs.YtocbogdjlapogaaGreatDoor
theorem sq_nonneg (x : Int) : 0 ≤ x * x := by
  rcases Int.le_total 0 x with h | h
  · exact Int.mul_nonneg h h
  · exact Int.mul_nonneg_of_nonpos_of_nonpos h h
theorem dev_nonneg (l : List Pr) (a : Int) : ∀ k : Nat, 0 ≤ sumZ (fun p => p.1 * p.1) l k + k * (a * a) - 2 * (a * sumZ (fun p => p.1) l k)
  | 0 => by simp [sumZ]
  | k + 1 => by
    have ih := dev_nonneg l a k
    show 0 ≤ (sumZ (fun p => p.1 * p.1) l k + (prOf l k).1 * (prOf l k).1) + ((k + 1 : Nat) : Int) * (a * a) - 2 * (a * (sumZ (fun p => p.1) l k + (prOf l k).1))
    generalize sumZ (fun p => p.1 * p.1) l k = S at *
    generalize sumZ (fun p => p.1) l k = T at *
    generalize (prOf l k).1 = x at *
    have h := sq_nonneg (x - a)
    have e : (S + x * x) + ((k + 1 : Nat) : Int) * (a * a) - 2 * (a * (T + x)) = (S + k * (a * a) - 2 * (a * T)) + (x - a) * (x - a) := by grind
    omega
theorem dev_pos (l : List Pr) (a : Int) (k : Nat) (hk : 0 < k) (h : (prOf l (k - 1)).1 ≠ a) : 0 < sumZ (fun p => p.1 * p.1) l k + k * (a * a) - 2 * (a * sumZ (fun p => p.1) l k) := by
  obtain ⟨j, rfl⟩ : ∃ j, k = j + 1 := ⟨k - 1, by omega⟩
  rw [show j + 1 - 1 = j by omega] at h
  have ih := dev_nonneg l a j
  show 0 < (sumZ (fun p => p.1 * p.1) l j + (prOf l j).1 * (prOf l j).1) + ((j + 1 : Nat) : Int) * (a * a) - 2 * (a * (sumZ (fun p => p.1) l j + (prOf l j).1))
  generalize sumZ (fun p => p.1 * p.1) l j = S at *
  generalize sumZ (fun p => p.1) l j = T at *
  generalize (prOf l j).1 = x at *
  have h1 := sq_nonneg (x - a)
  have h2 : (x - a) * (x - a) ≠ 0 := fun h9 => by
    rcases Int.mul_eq_zero.1 h9 with h8 | h8 <;> omega
  have e : (S + x * x) + ((j + 1 : Nat) : Int) * (a * a) - 2 * (a * (T + x)) = (S + j * (a * a) - 2 * (a * T)) + (x - a) * (x - a) := by grind
  omega
theorem disc_pos (l : List Pr) (hi : ∀ k, k + 1 < l.length → (prOf l k).1 < (prOf l (k + 1)).1) : ∀ k : Nat, k ≤ l.length → (0 ≤ (k : Int) * sumZ (fun p => p.1 * p.1) l k - sumZ (fun p => p.1) l k * sumZ (fun p => p.1) l k) ∧ (2 ≤ k → 0 < (k : Int) * sumZ (fun p => p.1 * p.1) l k - sumZ (fun p => p.1) l k * sumZ (fun p => p.1) l k)
  | 0, _ => ⟨by simp [sumZ], fun h => by omega⟩
  | k + 1, hk => by
    obtain ⟨ih, _⟩ := disc_pos l hi k (by omega)
    have h1 := dev_nonneg l (prOf l k).1 k
    have h2 : 2 ≤ k + 1 → 0 < sumZ (fun p => p.1 * p.1) l k + k * ((prOf l k).1 * (prOf l k).1) - 2 * ((prOf l k).1 * sumZ (fun p => p.1) l k) := fun h => by
      refine dev_pos l _ k (by omega) ?_
      have := hi (k - 1) (by omega)
      rw [show k - 1 + 1 = k by omega] at this
      omega
    show (0 ≤ ((k + 1 : Nat) : Int) * (sumZ (fun p => p.1 * p.1) l k + (prOf l k).1 * (prOf l k).1) - (sumZ (fun p => p.1) l k + (prOf l k).1) * (sumZ (fun p => p.1) l k + (prOf l k).1)) ∧ (2 ≤ k + 1 → 0 < ((k + 1 : Nat) : Int) * (sumZ (fun p => p.1 * p.1) l k + (prOf l k).1 * (prOf l k).1) - (sumZ (fun p => p.1) l k + (prOf l k).1) * (sumZ (fun p => p.1) l k + (prOf l k).1))
    generalize sumZ (fun p => p.1 * p.1) l k = S at *
    generalize sumZ (fun p => p.1) l k = T at *
    generalize (prOf l k).1 = x at *
    have e : ((k + 1 : Nat) : Int) * (S + x * x) - (T + x) * (T + x) = ((k : Int) * S - T * T) + (S + k * (x * x) - 2 * (x * T)) := by grind
    rw [e]
    exact ⟨by omega, fun h => by have := h2 h; omega⟩
end Go.Proofs.YtocbogdjlapogaaGreatDoor
